/-
  A callback that collects what it is told in a list in a box, and stops at a number that no list reaches.
-/
import Derived.Test.YtdggflkkojmabaaDoorCollect
namespace Go.Proofs.YtdggflkkojmabaaDoor
open Go.RowKit
set_option linter.unusedVariables false

theorem run_equalIn_func_nil {P : Program} {d : Nat} {t : TypeId} {f : Fn} {a c : Array Value} {w : World} {x y : Array TypeId} {z : Bool} (h : P.underlying t = some (.func x y z)) : (Op.equalIn (d + 1) t (.func f a c) .nilFunc).run P w = .ok false w := by
  simp [Op.equalIn, run_underlying h]
theorem run_eq_nilFunc {P : Program} {t : TypeId} {f : Fn} {a c : Array Value} {w : World} (h : ∃ x y z, P.underlying t = some (.func x y z)) : (binOp .eql t (.func f a c) .nilFunc).run P w = .ok (.bool false) w := by
  obtain ⟨x, y, z, h⟩ := h
  have : binOp .eql t (.func f a c) .nilFunc = (do pure (.bool (← Op.equal t (.func f a c) .nilFunc))) := by cases f <;> rfl
  have h2 : (Op.equalIn (9999 + 1) t (.func f a c) .nilFunc).run P w = .ok false w := run_equalIn_func_nil h
  rw [this]
  simp only [Op.equal, Op.maxDepth, Sem.run_bind, h2, Result.andThen_ok, Sem.run_pure]

/-- the collector's state: k of xs have come -/
def CollK (bg base : Nat) (xs : List Int) (k : Nat) (O : Nat → Prop) (W : World) : Prop :=
  ∃ v, W.cell? ⟨bg, 0, none⟩ = some v ∧ W.ownsRow base 3 1 v k (ints (xs.take k)) ∧ W.frozen? ⟨bg, 0, none⟩ = false ∧ bg < base ∧ base ≤ W.heap.size ∧
    O bg ∧ (∀ b, v.ownBlock = some b → O b) ∧ (∀ b, O b → b < W.heap.size)
theorem CollK.stab {bg base : Nat} {xs : List Int} {k : Nat} {O : Nat → Prop} {W W' : World} (h : CollK bg base xs k O W) (hs : W.heap.size ≤ W'.heap.size) (hO : ∀ b, O b → W'.heap[b]? = W.heap[b]?) : CollK bg base xs k O W' := by
  obtain ⟨v, h1, h3, h4, h5, h8, g1, g3, g4⟩ := h
  exact ⟨v, (World.cell?_of_block (w := W) (a := ⟨bg, 0, none⟩) (hO bg g1)).trans h1, owns_agree h3 (fun b hb => hO b (g3 b hb)),
    (World.frozen?_of_block (w := W) (a := ⟨bg, 0, none⟩) (hO bg g1)).trans h4, h5, by omega, g1, g3, fun b hb => by have := g4 b hb; omega⟩
theorem CollK.lt {bg base : Nat} {xs : List Int} {k : Nat} {O : Nat → Prop} {W : World} (h : CollK bg base xs k O W) : ∀ b, O b → b < W.heap.size := by
  obtain ⟨v, h1, h3, h4, h5, h8, g1, g3, g4⟩ := h
  exact g4

/-- what a call of such a callback does; most: the number at which it stops -/
def CollCall (f : Nat) (most : Nat) : Prop := ∀ (bg base k : Nat) (xs : List Int) (O : Nat → Prop) (W : World) (hk : k < xs.length), xs.length ≤ 100000 → CollK bg base xs k O W →
    Calls Tryd.prog f #[.int .i64 xs[k], .pointer (some ⟨bg, 0, none⟩)] W fun e W' => ∃ O' : Nat → Prop, (∀ b, O b → O' b) ∧ (∀ b, O' b → O b ∨ W.heap.size ≤ b) ∧ Eff O W W' ∧
      CollK bg base xs (k + 1) O' W' ∧ e = .returned (.bool (decide (k + 1 < most)))

theorem collk_client {f most : Nat} (hf : CollCall f most) (he : ∀ args w, (callFunc f args).run Tryd.prog w = .ok (.enter f args) w) (bg base : Nat) (xs : List Int) (hl : xs.length ≤ 100000) (hm : xs.length < most) :
    Client Tryd.prog (.func (.func f) #[] #[.pointer (some ⟨bg, 0, none⟩)]) xs (CollK bg base xs) (fun _ _ _ => False) where
  stab := fun k O W W' h hs hO => h.stab hs hO
  stabx := fun k O W W' h hs hO => h.elim
  lt := fun k O W h => h.lt
  ltx := fun k O W h => h.elim
  call := fun k O W hk h => .inl ⟨_, _, rfl, he, (hf bg base k xs O W hk hl h).mono fun e W' ⟨O', h1, h2, h3, h4, h5⟩ => ⟨O', h1, h2, h3, .inl ⟨by rw [h5]; simp; omega, h4⟩⟩⟩

set_option maxHeartbeats 800000 in
theorem CollBack_any : CollCall 50 70 := by
  intro bg base k xs O W hk hl hJ
  obtain ⟨v, h1, h3, h4, h5, h8, g1, g3, g4⟩ := hJ
  obtain ⟨x, hx⟩ : ∃ x, xs[k] = x := ⟨_, rfl⟩
  have ht := hid (take_snoc xs k hk)
  rw [hx] at ht ⊢
  clear hx
  obtain ⟨a, cap, rfl, hs, hcap⟩ := owns_form h3
  have H3 := hid h3
  have G := hid (And.intro g1 (And.intro g3 g4))
  clear g1 g3 g4
  go_enter Tryd.func50, Tryd.ntmps50
  clear hs h3
  go_wp2_with (at_builtin; refine app1 eInt (.tmp 4) (.tmp 6) rfl rfl rfl rfl rfl H3.out rfl (by omega) (by omega) h8 ?_)
  intro a' cap' w' hown hg hb hf
  have e1 := grown_cell hg h1 (fun e => by have := owns_lt H3.out e; omega)
  have Hown := hid hown
  have Hf := hid hf
  have Hb := hid hb
  have Hg := hid hg
  have hfz : w'.frozen? ⟨bg, 0, none⟩ = false := (hb.frozen (p := ⟨bg, 0, none⟩) h5).trans h4
  clear hown hf hb hg h1 h4
  go_wp2
  obtain ⟨g1, g3, g4⟩ := G.out
  have hgr := Hg.out
  have hsz : W.heap.size ≤ w'.heap.size := hgr.size
  have hs2 : (w'.setCell ⟨bg, 0, none⟩ (.slice a' (k + 1) cap')).heap.size = w'.heap.size := by simp [go_sem]
  refine bodyPost_ret (v := .bool (decide ((k : Int) + 1 < 70))) (by simp [results, Tryd.results50, go_sem]) rfl ⟨fun b => O b ∨ (W.heap.size ≤ b ∧ b < w'.heap.size), fun b h => .inl h, fun b h => h.imp id (·.1), ?_, ?_, ?_⟩
  · refine ⟨hgr.os, hgr.tape, hgr.output, by omega, fun b hb hn => ?_⟩
    have hne : b ≠ bg := fun e => hn (e ▸ g1)
    rw [Below.heap_setCell _ _ _ _ hne]
    exact hgr.block b hb (fun e => hn (g3 b e.symm))
  · refine ⟨.slice a' (k + 1) cap', by simp [go_sem, e1], ?_, by simp [go_sem, hfz], h5, by omega, .inl g1, fun b hb => ?_, fun b hb => ?_⟩
    · rw [ht.out, ints_append, ints_one]; exact ownsRow_setCell_below Hown.out (by simpa using h5) _
    · rcases Hf.out b hb with h | h
      · exact .inl (g3 b h)
      · exact .inr ⟨h, (owns_lt Hown.out hb).2⟩
    · rcases hb with h | h
      · have := g4 b h; omega
      · omega
  · congr 2
    rw [Bool.eq_iff_iff]; simp; omega
end Go.Proofs.YtdggflkkojmabaaDoor

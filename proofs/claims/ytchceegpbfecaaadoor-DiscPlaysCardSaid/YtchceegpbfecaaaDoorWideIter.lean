/-
  The function that wide.All makes tells a set's numbers, word by word.
-/
import Derived.Test.YtchceegpbfecaaaDoorTodIter
import Derived.Test.YtchceegpbfecaaaDoorWideLaw
namespace Go.Proofs.YtchceegpbfecaaaDoor
open Go.RowKit
set_option linter.unusedVariables false
attribute [local go_sem] Oper.semAt_some

/-- the marks of loops that have been entered -/
def marks (Ds : List Nat) : List Deferred := Ds.map fun D => { target := .collected D, args := #[] }
theorem leaves_marks {F : Fence} {n : Nat} {P : Program} {fn : Func} {tmps : Array Value} {R : Ending → World → Prop} {u : FrameMode} (hu : u ≠ .run) : ∀ (Ds : List Nat) (w : World), Ds.Nodup → (∀ D ∈ Ds, w.heap[D]? = some (.deferred (some []))) →
    (∀ w' : World, w'.os = w.os → w'.tape = w.tape → w'.output = w.output → w'.heap.size = w.heap.size → (∀ b, b ∉ Ds → w'.heap[b]? = w.heap[b]?) → LeavesInM F n P fn tmps R [] u w') → LeavesInM F n P fn tmps R (marks Ds) u w
  | [], w, _, _, h => h w rfl rfl rfl rfl (fun _ _ => rfl)
  | D :: Ds, w, hn, hD, h => by
    rw [List.nodup_cons] at hn
    refine ⟨hu, .inl ⟨D, _, rfl, run_takeDeferred (hD D (by simp)), ?_⟩⟩
    refine leaves_marks hu Ds _ hn.2 (fun E hE => (World.putObj_heap_other (fun e => hn.1 (by rw [← e]; exact hE))).trans (hD E (by simp [hE]))) (fun w' h1 h2 h3 h4 h5 => h w' h1 h2 h3 (by rw [h4, World.putObj_size]) (fun b hb => ?_))
    simp only [List.mem_cons, not_or] at hb
    exact (h5 b hb.2).trans (World.putObj_heap_other hb.1)

theorem stab_marks {I : OwnP} (hI : StabO I) {k : Nat} {O : Nat → Prop} {w w' : World} {Ds : List Nat} (h : I k O w) (hn : ∀ D ∈ Ds, ¬ O D) (hs : w'.heap.size = w.heap.size) (hb : ∀ b, b ∉ Ds → w'.heap[b]? = w.heap[b]?) : I k O w' :=
  hI k O w w' h (by omega) (fun b hb2 => hb b (fun h2 => hn b h2 hb2))
theorem eff_marks {O : Nat → Prop} {W w w' : World} {Ds : List Nat} (h : Eff O W w) (hn : ∀ D ∈ Ds, W.heap.size ≤ D) (h1 : w'.os = w.os) (h2 : w'.tape = w.tape) (h3 : w'.output = w.output) (hs : w'.heap.size = w.heap.size) (hb : ∀ b, b ∉ Ds → w'.heap[b]? = w.heap[b]?) : Eff O W w' :=
  ⟨h1.trans h.os, h2.trans h.tape, h3.trans h.output, by rw [hs]; exact h.size, fun k hk hno => (hb k (fun h4 => by have := hn k h4; omega)).trans (h.block k hk hno)⟩

end Go.Proofs.YtchceegpbfecaaaDoor

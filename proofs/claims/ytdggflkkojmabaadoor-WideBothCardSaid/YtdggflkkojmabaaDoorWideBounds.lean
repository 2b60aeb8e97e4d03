/-
  What wide.Bounds computes.
-/
import Derived.Test.YtdggflkkojmabaaDoorWideFun
import Derived.Shelf.RegionOpen
import Derived.BigRegionIn
namespace Go.Proofs.YtdggflkkojmabaaDoor
open Go.RowKit
set_option linter.unusedVariables false
attribute [local go_sem] Oper.semAt_some

def firstZ (xs : List Int) (k : Nat) : Int := if k = 0 then 0 else xs.getD 0 0
/-- three boxes: the first one, the last one, whether one has come -/
def BndI (b1 b2 b3 : Nat) (xs : List Int) : OwnP := fun k O W =>
  W.cell? ⟨b1, 0, none⟩ = some (.int .i64 (firstZ xs k)) ∧ W.cell? ⟨b2, 0, none⟩ = some (.int .i64 (lastZ xs k)) ∧ W.cell? ⟨b3, 0, none⟩ = some (.bool (decide (0 < k))) ∧
  W.frozen? ⟨b1, 0, none⟩ = false ∧ W.frozen? ⟨b2, 0, none⟩ = false ∧ W.frozen? ⟨b3, 0, none⟩ = false ∧ O b1 ∧ O b2 ∧ O b3 ∧ ∀ b, O b → b < W.heap.size
theorem bndI_stab (b1 b2 b3 : Nat) (xs : List Int) : StabO (BndI b1 b2 b3 xs) := by
  rintro k O W W' ⟨h1, h2, h3, h4, h5, h6, h7, h8, h9, g⟩ hs hO
  exact ⟨(World.cell?_of_block (w := W) (a := ⟨b1, 0, none⟩) (hO b1 h7)).trans h1, (World.cell?_of_block (w := W) (a := ⟨b2, 0, none⟩) (hO b2 h8)).trans h2, (World.cell?_of_block (w := W) (a := ⟨b3, 0, none⟩) (hO b3 h9)).trans h3,
    (World.frozen?_of_block (w := W) (a := ⟨b1, 0, none⟩) (hO b1 h7)).trans h4, (World.frozen?_of_block (w := W) (a := ⟨b2, 0, none⟩) (hO b2 h8)).trans h5, (World.frozen?_of_block (w := W) (a := ⟨b3, 0, none⟩) (hO b3 h9)).trans h6, h7, h8, h9, fun b hb => Nat.lt_of_lt_of_le (g b hb) hs⟩
theorem bndI_lt (b1 b2 b3 : Nat) (xs : List Int) : LtO (BndI b1 b2 b3 xs) := fun k O W h => h.2.2.2.2.2.2.2.2.2

set_option maxRecDepth 100000 in
set_option maxHeartbeats 3200000 in
theorem WBounds_any (s : Nat → Nat) (w : World) (hs : ∀ i, i < 7 → s i < 18446744073709551616) (hT : Tab w) :
    Calls Tryd.prog 55 #[wv s] w fun e w' => e = .returned (.tuple #[.int .i64 (firstZ (wsel s) (wsel s).length), .int .i64 (lastZ (wsel s) (wsel s).length), .bool (decide (0 < (wsel s).length))]) ∧ Below w.heap.size w w' := by
  have HT := hid hT
  have hT0 := hT.1
  have c1 := hid (fun W => WAll_any s W hs)
  have tells := hid (fun b1 Ow w (h1 : b1 < w.heap.size) h2 h3 h4 h5 => wide_tells2 (inW s) b1 Ow w (fun i hi => inW_lt i (hs i hi)) h1 h2 h3 h4 h5)
  rw [wsel_in] at tells
  obtain ⟨xs, hxs⟩ : ∃ xs, wsel s = xs := ⟨_, rfl⟩
  rw [hxs] at tells ⊢
  obtain ⟨t, ht⟩ : ∃ t, inW s = t := ⟨_, rfl⟩
  rw [ht] at c1 tells
  clear hxs ht hs hT
  obtain ⟨W1, hW1⟩ : ∃ W1, (((w.alloc (.cells #[.int .u64 (s 0 : Nat), .int .u64 (s 1 : Nat), .int .u64 (s 2 : Nat), .int .u64 (s 3 : Nat), .int .u64 (s 4 : Nat), .int .u64 (s 5 : Nat), .int .u64 (s 6 : Nat)] 70)).alloc (.cells #[.int .i64 0] 3)).alloc (.cells #[.int .i64 0] 3)).alloc (.cells #[.bool false] 4) = W1 := ⟨_, rfl⟩
  have q1 : W1.heap.size = w.heap.size + 4 := by rw [← hW1]; simp
  have q2 : Below w.heap.size w W1 := by rw [← hW1]; exact below_new (below_new (below_new (below_new (Below.refl _ _) (Nat.le_refl _)) (by simp)) (by simp; omega)) (by simp; omega)
  have q3 : BndI (w.heap.size + 1) (w.heap.size + 2) (w.heap.size + 3) xs 0 (fun b => b = w.heap.size + 1 ∨ b = w.heap.size + 2 ∨ b = w.heap.size + 3) W1 := by
    refine ⟨?_, ?_, ?_, ?_, ?_, ?_, .inl rfl, .inr (.inl rfl), .inr (.inr rfl), fun b hb => by omega⟩
    all_goals (rw [← hW1]; simp [go_sem, firstZ, lastZ])
  have HW1 := hid hW1
  have Q2 := hid q2
  have Q3 := hid q3
  clear hW1 q2 q3
  refine (wf_calls (r := none) (n := 1)).mp ?_
  refine callsIn_of_wp_marks Tryd.func55 rfl trivial ?_ rfl
  simp only [Tryd.ntmps55, List.size_toArray, List.length_cons, List.length_nil, Nat.reduceAdd, Nat.reduceSub, Array.replicate_succ, Array.replicate_zero, List.push_toArray, List.append_toArray, List.nil_append, List.cons_append]
  gi_wp2_with fail
  rw [HW1.out]
  refine (wf_calls.mpr (c1.out W1)).mono ?_
  rintro e w2 ⟨rfl, hc2, hB2, hs2⟩
  have HB2 : Hid (Below w.heap.size w w2) := Q2.out.trans (hB2.mono Q2.out.size)
  have I2 : Hid (BndI (w.heap.size + 1) (w.heap.size + 2) (w.heap.size + 3) xs 0 (fun b => b = w.heap.size + 1 ∨ b = w.heap.size + 2 ∨ b = w.heap.size + 3) w2) := stab_below (bndI_stab _ _ _ _) (bndI_lt _ _ _ _) Q3.out hB2
  rw [q1] at hc2 hs2
  have tl := hid (tells.out (w.heap.size + 4) (fun b => b = w.heap.size + 1 ∨ b = w.heap.size + 2 ∨ b = w.heap.size + 3) w2 hs2 (by omega) hc2 (HT.out.later HB2.out) (by omega))
  clear hc2 hB2 tells Q3
  gi_wp2_with fail
  refine range_outer2 (gf := 95) (lb := #[.pointer (some ⟨w.heap.size + 4, 0, none⟩)]) rfl wide_enters xs _ rfl tl.out
    (BndI (w.heap.size + 1) (w.heap.size + 2) (w.heap.size + 3) xs) (fun _ _ _ _ => False) (bndI_stab _ _ _ _) (fun _ _ _ _ _ h _ _ => h.elim) (bndI_lt _ _ _ _) (fun _ _ _ _ h => h.elim) I2.out
    (fun k O a' W => BndI (w.heap.size + 1) (w.heap.size + 2) (w.heap.size + 3) xs k O W ∧ ∃ x, xs[k]? = some x ∧ a' = { tmps := #[wv s, .pointer (some ⟨w.heap.size, 0, none⟩), .int .i64 0, .int .i64 0, .bool false, .pointer (some ⟨w.heap.size + 1, 0, none⟩), .pointer (some ⟨w.heap.size + 2, 0, none⟩), .pointer (some ⟨w.heap.size + 3, 0, none⟩), .int .i64 x, wv s,
      .func (.func 95) #[] #[.pointer (some ⟨w.heap.size + 4, 0, none⟩)], .int .i64 x, undef, undef, undef, undef, undef, undef, undef], defers := [] })
    (fun l o k O a' W' hr hn h => ⟨stab_put (bndI_stab _ _ _ _) h.1 hn o, h.2⟩) ?assign ?body ?done ?stop
  case assign =>
    intro l k O6 W6 K hk hI hG6 hK
    gi_wp2
    exact hK _ O6 _ (Grow.refl _ _) ⟨hI, _, List.getElem?_eq_getElem hk, rfl⟩
  case stop =>
    intro c k O' W' _ _ _ h
    exact h.elim
  case body =>
    rintro l k O a' W hk hG hl hrec hnl ⟨⟨h1, h2, h3, h4, h5, h6, h7, h8, h9, g⟩, x, ex, rfl⟩
    obtain ⟨_, ex'⟩ := List.getElem?_eq_some_iff.1 ex
    have hls : Hid (lastZ xs (k + 1) = x) := by show _ = _; rw [lastZ_succ xs k hk, ex']
    have HG := hid (And.intro h7 (And.intro h8 (And.intro h9 g)))
    by_cases hk0 : k = 0
    · have hf0 : Hid (firstZ xs (k + 1) = x) := by
        show _ = _
        subst hk0
        rw [firstZ, if_neg (by omega), List.getD_eq_getElem?_getD, ex]; rfl
      have h3' : W.cell? ⟨w.heap.size + 3, 0, none⟩ = some (.bool false) := by rw [h3]; simp [hk0]
      clear h3 h7 h8 h9 g ex ex' hk0
      gi_wp2
      obtain ⟨h7, h8, h9, g⟩ := HG.out
      refine ⟨O, ⟨fun _ h => h, fun _ h => .inl h, rfl, rfl, rfl, by simp [go_sem], fun b hb hn => ?_⟩, ?_, ?_, ?_, by simp [go_sem, h4], by simp [go_sem, h5], by simp [go_sem, h6], h7, h8, h9, fun b hb => by simpa [go_sem] using g b hb⟩
      · exact (Below.heap_setCell _ _ _ _ (fun e => hn (by rw [e]; exact h8))).trans ((Below.heap_setCell _ _ _ _ (fun e => hn (by rw [e]; exact h9))).trans (Below.heap_setCell _ _ _ _ (fun e => hn (by rw [e]; exact h7))))
      · rw [hf0.out]; simp [go_sem, h1]
      · rw [hls.out]; simp [go_sem, h2]
      · simp [go_sem, h3']
    · have hf0 : Hid (firstZ xs (k + 1) = firstZ xs k) := by
        show _ = _
        rw [firstZ, firstZ, if_neg (by omega), if_neg hk0]
      have h3' : W.cell? ⟨w.heap.size + 3, 0, none⟩ = some (.bool true) := by rw [h3]; simp; omega
      clear h3 h7 h8 h9 g ex ex' hk0
      gi_wp2
      obtain ⟨h7, h8, h9, g⟩ := HG.out
      refine ⟨O, ⟨fun _ h => h, fun _ h => .inl h, rfl, rfl, rfl, by simp [go_sem], fun b hb hn => ?_⟩, ?_, ?_, ?_, by simp [go_sem, h4], by simp [go_sem, h5], by simp [go_sem, h6], h7, h8, h9, fun b hb => by simpa [go_sem] using g b hb⟩
      · exact Below.heap_setCell _ _ _ _ (fun e => hn (by rw [e]; exact h8))
      · rw [hf0.out]; simp [go_sem, h1]
      · rw [hls.out]; simp [go_sem, h2]
      · simp [go_sem, h3']
  case done =>
    rintro O' W' hG ⟨h1, h2, h3, h4, h5, h6, h7, h8, h9, g⟩ hD hnD
    have hBf : Hid (Below w.heap.size w (W'.drew.putObj w2.heap.size (.deferred none))) := below_putObj (HB2.out.trans (hG.eff.below (by rintro b (h | h | h) <;> omega) HB2.out.size)).drew HB2.out.size _
    obtain ⟨x, hx⟩ : ∃ x, firstZ xs xs.length = x := ⟨_, rfl⟩
    obtain ⟨y, hy⟩ : ∃ x, lastZ xs xs.length = x := ⟨_, rfl⟩
    obtain ⟨z, hz⟩ : ∃ x, decide (0 < xs.length) = x := ⟨_, rfl⟩
    have Hx := hid hx
    have Hy := hid hy
    have Hz := hid hz
    rw [hx] at h1
    rw [hy] at h2
    rw [hz] at h3
    clear hx hy hz h4 h5 h6 h7 h8 h9 g hG
    gi_wp2
    gi_region
    all_goals gi_wp2
    refine ⟨by simp, .inl ⟨_, _, rfl, run_takeDeferred (w := W'.drew) hD, ?_⟩⟩
    exact ⟨.tuple #[.int .i64 x, .int .i64 y, .bool z], by simp [results, Tryd.results55, go_sem], by rw [Hx.out, Hy.out, Hz.out], hBf.out⟩
end Go.Proofs.YtdggflkkojmabaaDoor

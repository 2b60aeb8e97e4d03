/-
  ferialaw02.MaskBack answers true for every mask.
-/
import Derived.Test.YtdggflkkojmabaaDoorCollect2
import Derived.Test.YtdggflkkojmabaaDoorMaskSpansWalk
import Derived.Shelf.Abstract
import Derived.Test.YtdggflkkojmabaaDoorMaskList
import Derived.Test.YtdggflkkojmabaaDoorPopWalk
import Derived.Deep.RegionHeld3
namespace Go.Proofs.YtdggflkkojmabaaDoor
open Go.RowKit
set_option linter.unusedVariables false

theorem andM_one {m : Nat} (hm : m < 18446744073709551616) : andM [m] = m := by
  show 18446744073709551615 &&& m = m
  rw [Nat.and_comm]
  exact Nat.and_two_pow_sub_one_of_lt_two_pow (n := 64) hm
/-- the number ahead of the j-th one -/
def lastI (xs : List Int) (j : Nat) : Int := if j = 0 then -1 else xs.getD (j - 1) 0
theorem lastI_zero (xs : List Int) : lastI xs 0 = -1 := rfl
theorem lastI_succ (xs : List Int) (j : Nat) (hj : j < xs.length) : lastI xs (j + 1) = xs[j] := by
  simp only [lastI, Nat.add_one_ne_zero, if_false, Nat.add_sub_cancel]
  rw [List.getD_eq_getElem?_getD, List.getElem?_eq_getElem hj]; rfl
theorem above_neg {m : Nat} : aboveM m (-1) = m := by simp [aboveM]
theorem back_at {m : Nat} (hm : m < 18446744073709551616) (j : Nat) (hj : j < (sel m.testBit 64).length) :
    hasB m (sel m.testBit 64)[j] = true ∧ leastB (aboveM m (lastI (sel m.testBit 64) j)) = true ∧ leastI (aboveM m (lastI (sel m.testBit 64) j)) = (sel m.testBit 64)[j] ∧ lastI (sel m.testBit 64) j < (sel m.testBit 64)[j] := by
  have h1 : hasB m (sel m.testBit 64)[j] = true := by
    obtain ⟨k, hk, hb, e⟩ := sel_mem.mp (List.getElem_mem hj)
    rw [e, hasB_nat]; exact hb
  cases j with
  | zero =>
    have := least_at hm
    rw [lastI_zero, above_neg, this.1, this.2]
    refine ⟨h1, by simpa using hj, ?_, by have := sel_nonneg 0 hj; omega⟩
    rw [List.getD_eq_getElem?_getD, List.getElem?_eq_getElem hj]; rfl
  | succ j =>
    have hn := next_at hm j (by omega)
    rw [lastI_succ _ _ (by omega), hn.1, hn.2]
    refine ⟨h1, by simpa using hj, ?_, sel_less j (by omega) hj⟩
    rw [List.getD_eq_getElem?_getD, List.getElem?_eq_getElem hj]; rfl
theorem back_end {m : Nat} (hm : m < 18446744073709551616) : leastB (aboveM m (lastI (sel m.testBit 64) (sel m.testBit 64).length)) = false := by
  rcases Nat.eq_zero_or_pos (sel m.testBit 64).length with h | h
  · rw [h, lastI_zero, above_neg, (least_at hm).1, h]; rfl
  · obtain ⟨j, hj⟩ : ∃ j, (sel m.testBit 64).length = j + 1 := ⟨(sel m.testBit 64).length - 1, by omega⟩
    have hn := next_at hm j (by omega)
    rw [hj, lastI_succ _ _ (by omega), hn.1]
    simp [hj]
theorem ofM_back {m : Nat} (hm : m < 18446744073709551616) : ofM (sel m.testBit 64) = m := by rw [ofM_sel, mk_self hm]

/-- the box of the list, in whatever world of the end -/
abbrev BkS (w : World) (bg : Nat) (a : Option Addr) (cap : Nat) (xs : List Int) (W : World) : Prop :=
  W.cell? ⟨bg, 0, none⟩ = some (.slice a xs.length cap) ∧ Sl W a (ints xs) ∧ Below w.heap.size w W ∧ bg < W.heap.size
theorem BkS.keep {w W W' : World} {bg : Nat} {a : Option Addr} {cap : Nat} {xs : List Int} (h : BkS w bg a cap xs W) (hb : Below W.heap.size W W') : BkS w bg a cap xs W' := by
  obtain ⟨h1, h2, h3, h4⟩ := h
  exact ⟨(hb.cell (p := ⟨bg, 0, none⟩) h4).trans h1, h2.below hb, h3.trans (hb.mono h3.size), Nat.lt_of_lt_of_le h4 hb.size⟩

set_option maxRecDepth 100000 in
set_option maxHeartbeats 3200000 in
theorem MaskBack_walk (m : Nat) (w : World) (hm : m < 18446744073709551616) (hT : Tab w) :
    Calls Tryd.prog 9 #[.int .u64 m] w fun e w' => e = .returned (.bool true) ∧ Below w.heap.size w w' := by
  have HT := hid hT
  have hMA := MAll_any (some ⟨w.heap.size, 0, none⟩) 1 [m] (w.alloc (.cells #[.int .u64 m] 24)) (by simp) (.inr ⟨w.heap.size, 0, rfl, by simp, fun j hj => by simp [u64s] at hj ⊢; subst hj; simp [go_sem]⟩) (by simpa using hm)
  rw [andM_one hm] at hMA
  have HM := hid hMA
  have hB0 : Below w.heap.size w (w.alloc (.cells #[.int .u64 m] 24)) := below_new (Below.refl _ _) (Nat.le_refl _)
  clear hMA hT
  go_enter Tryd.func9, Tryd.ntmps9
  go_wp2_with fail
  refine HM.out.mono ?_
  rintro e w1 ⟨rfl, hm1, hm2, hm3⟩
  simp only [World.size_alloc] at hm1 hm2 hm3 ⊢
  have hnil := fun W => run_eq_nilFunc (P := Tryd.prog) (t := 33) (f := .func 80) (a := #[]) (c := #[.pointer (some ⟨w.heap.size + 1, 0, none⟩)]) (w := W) ⟨_, _, _, Tryd.underlying33⟩
  have hB1 : Below w.heap.size w w1 := hB0.trans (hm2.mono (by omega))
  obtain ⟨W0, hW0⟩ : ∃ W0, w1.alloc (.cells #[.slice none 0 0] 22) = W0 := ⟨_, rfl⟩
  have q1 : W0.cell? ⟨w1.heap.size, 0, none⟩ = some (.slice none 0 0) := by rw [← hW0]; simp [go_sem]
  have q2 : W0.frozen? ⟨w1.heap.size, 0, none⟩ = false := by rw [← hW0]; simp [go_sem]
  have q3 : W0.heap.size = w1.heap.size + 1 := by rw [← hW0]; simp
  have q4 : Below w1.heap.size w1 W0 := by rw [← hW0]; exact below_new (Below.refl _ _) (Nat.le_refl _)
  have q5 : W0.cell? ⟨w.heap.size + 1, 0, none⟩ = some (.int .u64 m) := (q4.cell (p := ⟨w.heap.size + 1, 0, none⟩) hm3).trans hm1
  have hB2 : Below w.heap.size w W0 := hB1.trans (q4.mono hB1.size)
  have hT0 := HT.out.1
  have hcl := collk_client CollBack_any (Go.Proofs.enters_of Tryd.func50 (by kernel_rfl) rfl) w1.heap.size W0.heap.size (sel m.testBit 64) (Nat.le_trans (sel_len _ _) (by omega)) (Nat.lt_of_le_of_lt (sel_len _ _) (by omega))
  have hI := MaskIter_any m (w.heap.size + 1) _ _ _ (fun b => b = w1.heap.size) W0 hm hcl ⟨_, q1, World.ownsRow_nil _ _ _ _, q2, by omega, Nat.le_refl _, rfl, fun b hb => (by cases hb), fun b hb => by omega⟩
    (by omega) (by omega) q5 (HT.out.later hB2) (by omega)
  have c1 := hid (fun j hj => back_at hm j hj)
  have c2 := hid (back_end hm)
  have c3 := hid (ofM_back hm)
  have c4 := hid (sel_pop m)
  have hlen := sel_len m.testBit 64
  obtain ⟨xs, hxs⟩ : ∃ xs, sel m.testBit 64 = xs := ⟨_, rfl⟩
  rw [hxs] at hI c1 c2 c3 c4 hlen
  have HI := hid hI
  have HB2 := hid hB2
  have HW0 := hid hW0
  clear hI hcl hxs q1 q2 q4 q5 hm1 hm2 hB1 hB0 hW0 HM hB2
  go_wp2_with fail
  rw [HW0.out]
  refine HI.out.mono ?_
  rintro e W2 ⟨⟨v, rfl⟩, O', hsub, hnew, hE, hend⟩
  have hJ : CollK w1.heap.size W0.heap.size xs xs.length O' W2 := by
    rcases hend with h | ⟨_, _, _, h⟩
    · exact h
    · exact h.elim
  have hB3 : Below w.heap.size w W2 := HB2.out.trans (hE.below (by rintro b h; have := HB2.out.size; omega) HB2.out.size)
  obtain ⟨v', k1, k2, k3, _⟩ := hJ
  obtain ⟨ag, cg, rfl, hs, _⟩ := owns_form k2
  rw [List.take_length] at hs
  have HB3 := hid hB3
  have Hs := hid hs
  have hbg : w1.heap.size < W2.heap.size := World.block_lt_of_cell? W2 _ k1
  have HT2 := hid (HT.out.later hB3)
  have n1 := hid (fun n => Next_any m n W2 hm HT2.out)
  have n2 := hid (fun n => Has_any m n W2 hm)
  clear hend hsub hnew hE k2 hs hB3
  go_wp2_with fail
  go_loopw [5, 6, 7, 8] (fun v i _ _ wr => ∃ j : Nat, i = .int .i64 j ∧ j ≤ xs.length ∧ v = .int .i64 (lastI xs j) ∧ wr = W2) (fun _ i _ _ _ => xs.length - (intOf i).toNat)
  case atStart => exact ⟨0, rfl, by omega, rfl, rfl⟩
  case round =>
    obtain ⟨j, rfl, hj, rfl, rfl⟩ := hrel
    by_cases hlt : j < xs.length
    · obtain ⟨b, off, rfl, hbk, hc⟩ := Hs.out.atInt hlt
      have e1 := hc j hlt
      have hf := c1.out j hlt
      have hls := hid (lastI_succ xs j hlt)
      have N1 := hid (n1.out (lastI xs j))
      have N2 := hid (n2.out xs[j])
      obtain ⟨x, hx⟩ : ∃ x, xs[j] = x := ⟨_, rfl⟩
      obtain ⟨y, hy⟩ : ∃ y, lastI xs j = y := ⟨_, rfl⟩
      rw [hy] at N1 ⊢
      rw [hx] at N2 e1 hls
      rw [hx, hy] at hf
      obtain ⟨f1, f2, f3, f4⟩ := hf
      rw [f2, f3] at N1
      rw [f1] at N2
      clear hc hx hy f1 f2 f3
      go_wp2_with (first | (go_at_call 37; refine N1.out.mono ?_; rintro e w' ⟨rfl, rfl⟩) | (go_at_call 23; refine N2.out.mono ?_; rintro e w' ⟨rfl, rfl⟩))
      exact ⟨⟨j + 1, by go_num, by omega, by rw [hls.out], trivial⟩, by simp [intOf]; omega⟩
    · obtain rfl : j = xs.length := by omega
      have N1 := hid (n1.out (lastI xs xs.length))
      rw [c2.out] at N1
      obtain ⟨y, hy⟩ : ∃ y, lastI xs xs.length = y := ⟨_, rfl⟩
      rw [hy] at N1 ⊢
      clear hy
      go_wp2_with fail
      refine N1.out.mono ?_
      rintro e w' ⟨rfl, rfl⟩
      have HS : Hid (BkS w w1.heap.size ag cg xs wr) := ⟨k1, Hs.out, HB3.out, hbg⟩
      have d1 := hid (fun W (h : BkS w w1.heap.size ag cg xs W) => keep_of (MOf_any ag cg xs W (by omega) h.2.1) (fun _ => h.keep))
      have d2 := hid (fun W (h : BkS w w1.heap.size ag cg xs W) => keep_of (same_below (Len_any m W hm)) (fun _ => h.keep))
      have d3 := hid (fun W (h : BkS w w1.heap.size ag cg xs W) => keep_of (lives02_any W (HT.out.later h.2.2.1)) (fun _ => h.keep))
      rw [c3.out] at d1
      rw [← c4.out] at d2
      have HS0 : Hid (BkS w w1.heap.size ag cg xs wr.drew) := ⟨k1, Hs.out, HB3.out.drew, hbg⟩
      go_wp2_with fail
      go_region_held3 (fun w' => BkS w w1.heap.size ag cg xs w') (first | exact HS0.out | assumption)
        (first
          | (go_at_call 19; refine (d1.out _ (by assumption)).mono ?_; rintro e w' ⟨rfl, hS⟩)
          | (go_at_call 38; refine (d2.out _ (by assumption)).mono ?_; rintro e w' ⟨rfl, hS⟩)
          | (go_at_call 18; refine (d3.out _ (by assumption)).mono ?_; rintro e w' ⟨rfl, hS⟩))
      go_wp2
      go_ret
      exact ⟨rfl, (‹BkS w w1.heap.size ag cg xs _›).2.2.1⟩
end Go.Proofs.YtdggflkkojmabaaDoor

/-
  What tod.greatest computes: the last number of a mask; a range over a function.
-/
import Derived.Test.YtdggflkkojmabaaDoorRange
import Derived.Test.YtdggflkkojmabaaDoorMaskBackWalk
import Derived.RangeFuncNested
import Derived.RangeFuncLeaves
namespace Go.Proofs.YtdggflkkojmabaaDoor
open Go.RowKit
set_option linter.unusedVariables false
attribute [local go_sem] Oper.semAt_some

/-- mask.All's function tells its mask's numbers -/
theorem mask_tells (m b : Nat) (Ow : Nat → Prop) (w : World) (hm : m < 18446744073709551616) (hb : b < w.heap.size) (hbO : ¬ Ow b) (hbox : w.cell? ⟨b, 0, none⟩ = some (.int .u64 m)) (hT : Tab w) (hTO : ¬ Ow 0) :
    Tells Tryd.prog 80 #[.pointer (some ⟨b, 0, none⟩)] (sel m.testBit 64) Ow w := by
  intro y J Jx O W hO hB hC hJ
  exact MaskIter_any m b y J Jx O W hm hC hJ (Nat.lt_of_lt_of_le hb hB.size) (fun h => by rcases hO b h with h1 | h1; exact hbO h1; omega) ((hB.cell (p := ⟨b, 0, none⟩) hb).trans hbox) (hT.later hB) (fun h => by rcases hO _ h with h1 | h1; exact hTO h1; have := hT.1; omega)
theorem mask_enters : ∀ args w, (callFunc 80 args).run Tryd.prog w = .ok (.enter 80 args) w := Go.Proofs.enters_of Tryd.func80 (by kernel_rfl) rfl

theorem below_putObj {B : Nat} {A W : World} (h : Below B A W) {l : Nat} (hl : B ≤ l) (o : Obj) : Below B A (W.putObj l o) :=
  ⟨h.os, h.tape, h.output, by rw [World.putObj_size]; exact h.size, fun k hk => (World.putObj_heap_other (by omega)).trans (h.block k hk)⟩
/-- a box holds f k when k have come -/
def BoxI (b : Nat) (f : Nat → Value) : OwnP := fun k O W => W.cell? ⟨b, 0, none⟩ = some (f k) ∧ W.frozen? ⟨b, 0, none⟩ = false ∧ O b ∧ ∀ x, O x → x < W.heap.size
theorem boxI_stab (b : Nat) (f : Nat → Value) : StabO (BoxI b f) := fun k O W W' h hs hO =>
  ⟨(World.cell?_of_block (w := W) (a := ⟨b, 0, none⟩) (hO b h.2.2.1)).trans h.1, (World.frozen?_of_block (w := W) (a := ⟨b, 0, none⟩) (hO b h.2.2.1)).trans h.2.1, h.2.2.1, fun x hx => Nat.lt_of_lt_of_le (h.2.2.2 x hx) hs⟩
theorem boxI_lt (b : Nat) (f : Nat → Value) : LtO (BoxI b f) := fun k O W h => h.2.2.2

/-- the last of the first k, or 0 -/
def lastZ (xs : List Int) (k : Nat) : Int := if k = 0 then 0 else xs.getD (k - 1) 0
theorem lastZ_succ (xs : List Int) (j : Nat) (hj : j < xs.length) : lastZ xs (j + 1) = xs[j] := by
  simp only [lastZ, Nat.add_one_ne_zero, if_false, Nat.add_sub_cancel]
  rw [List.getD_eq_getElem?_getD, List.getElem?_eq_getElem hj]; rfl
def topI (m : Nat) : Int := lastZ (sel m.testBit 64) (sel m.testBit 64).length

set_option maxHeartbeats 1600000 in
theorem Great_any (m : Nat) (w : World) (hm : m < 18446744073709551616) (hT : Tab w) :
    Calls Tryd.prog 98 #[.int .u64 m] w fun e w' => e = .returned (.int .i64 (topI m)) ∧ Below w.heap.size w w' := by
  have HT := hid hT
  obtain ⟨W1, hW1⟩ : ∃ W1, (w.alloc (.cells #[.int .i64 0] 3)).alloc (.cells #[.int .u64 m] 24) = W1 := ⟨_, rfl⟩
  have q1 : W1.cell? ⟨w.heap.size, 0, none⟩ = some (.int .i64 0) := by rw [← hW1]; simp [go_sem]
  have q2 : W1.frozen? ⟨w.heap.size, 0, none⟩ = false := by rw [← hW1]; simp [go_sem]
  have q3 : W1.heap.size = w.heap.size + 2 := by rw [← hW1]; simp
  have q4 : Below w.heap.size w W1 := by rw [← hW1]; exact below_new (below_new (Below.refl _ _) (Nat.le_refl _)) (by simp)
  have hMA := MAll_any (some ⟨w.heap.size + 1, 0, none⟩) 1 [m] W1 (by simp) (.inr ⟨w.heap.size + 1, 0, rfl, by omega, fun j hj => by simp [u64s] at hj ⊢; subst hj; rw [← hW1]; simp [go_sem]⟩) (by simpa using hm)
  rw [andM_one hm] at hMA
  have HM := hid hMA
  have HW1 := hid hW1
  clear hMA hW1
  refine (wf_calls (r := none) (n := 1)).mp ?_
  refine callsIn_of_wp_marks Tryd.func98 rfl trivial ?_ rfl
  simp only [Tryd.ntmps98, List.size_toArray, List.length_cons, List.length_nil, Nat.reduceAdd, Nat.reduceSub, Array.replicate_succ, Array.replicate_zero, List.push_toArray, List.append_toArray, List.nil_append, List.cons_append]
  gi_wp2_with fail
  rw [HW1.out]
  refine (wf_calls.mpr HM.out).mono ?_
  rintro e w1 ⟨rfl, hm1, hm2, hm3⟩
  have hB1 : Below w.heap.size w w1 := q4.trans (hm2.mono q4.size)
  have r1 := (hm2.cell (p := ⟨w.heap.size, 0, none⟩) (by simp only []; omega)).trans q1
  have r2 := (hm2.frozen (p := ⟨w.heap.size, 0, none⟩) (by simp only []; omega)).trans q2
  have hT0 := HT.out.1
  have hseq := mask_tells m W1.heap.size (fun b => b = w.heap.size) w1 hm hm3 (by omega) hm1 (HT.out.later hB1) (by omega)
  have htop : Hid (topI m = lastZ (sel m.testBit 64) (sel m.testBit 64).length) := rfl
  obtain ⟨xs, hxs⟩ : ∃ xs, sel m.testBit 64 = xs := ⟨_, rfl⟩
  rw [hxs] at hseq htop
  rw [q3] at hseq
  have HB1 := hid hB1
  clear hB1 hxs q1 q2 q4 hm1 hm2 HM
  gi_wp2_with fail
  refine range_outer (gf := 80) (lb := #[.pointer (some ⟨w.heap.size + 2, 0, none⟩)]) rfl mask_enters xs (fun b => b = w.heap.size) rfl hseq
    (BoxI w.heap.size (fun k => .int .i64 (lastZ xs k))) (fun _ _ _ _ => False) (boxI_stab _ _) (fun _ _ _ _ _ h _ _ => h.elim) (boxI_lt _ _) (fun _ _ _ _ h => h.elim) ⟨r1, r2, rfl, fun b hb => by omega⟩
    (fun k O a' W => BoxI w.heap.size (fun k => .int .i64 (lastZ xs k)) k O W ∧ ∀ hk : k < xs.length, a' = { tmps := #[.int .u64 m, undef, .int .i64 0, .pointer (some ⟨w.heap.size, 0, none⟩), .int .i64 xs[k], .int .u64 m, .slice (some ⟨w.heap.size + 1, 0, none⟩) 1 1, .func (.func 80) #[] #[.pointer (some ⟨w.heap.size + 2, 0, none⟩)], .int .i64 xs[k], undef, undef], defers := [] }) ?hA ?assign ?body ?done ?stop
  case hA => exact fun a' k O W W' h hs hO => ⟨boxI_stab _ _ _ _ _ _ h.1 hs hO, h.2⟩
  case assign =>
    intro l k O W K hk hI hK
    gi_wp2
    exact hK _ O W (Grow.refl _ _) ⟨hI, fun _ => rfl⟩
  case body =>
    rintro l k O a' W hk hl hrec hnl ⟨⟨i1, i2, i3, i4⟩, ha⟩
    rw [ha hk]
    have hs := hid (lastZ_succ xs k hk)
    obtain ⟨x, hx⟩ : ∃ x, xs[k] = x := ⟨_, rfl⟩
    rw [hx] at hs ⊢
    have hlt := World.block_lt_of_cell? W _ i1
    clear ha hx
    gi_wp2
    exact ⟨O, ⟨fun _ h => h, fun _ h => .inl h, ⟨rfl, rfl, rfl, by simp [go_sem], fun b hb hn => Below.heap_setCell _ _ _ _ (fun e => hn (by rw [e]; exact i3))⟩⟩, by show _ = some (Value.int .i64 (lastZ xs (k + 1))); rw [hs.out]; simp [go_sem, i1], by simp [go_sem, i2], i3, fun b hb => by simpa [go_sem] using i4 b hb⟩
  case done =>
    rintro O' W' hG ⟨i1, i2, i3, i4⟩ hD hnD
    have i1' : W'.cell? ⟨w.heap.size, 0, none⟩ = some (.int .i64 (topI m)) := by rw [htop.out]; exact i1
    clear i1
    gi_wp2
    refine ⟨by simp, .inl ⟨_, _, rfl, run_takeDeferred hD, ?_⟩⟩
    exact ⟨_, results_tmp rfl _ _ _, rfl, below_putObj (HB1.out.trans (hG.eff.below (by rintro b rfl; exact Nat.le_refl _) HB1.out.size)) (by omega) _⟩
  case stop =>
    intro c k O' W' _ _ _ h
    exact h.elim
end Go.Proofs.YtdggflkkojmabaaDoor

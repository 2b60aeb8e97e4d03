/-
  What within, may, May, Has, Len of wide compute.
-/
import Derived.Test.YtndfckpcbiecnaaWideBase
import Derived.Test.YtndfckpcbiecnaaPopWalk
namespace Go.Proofs.Ytndfckpcbiecnaa
open Go.RowKit
set_option linter.unusedVariables false

def inW (s : Nat → Nat) (i : Nat) : Nat := s i &&& fullW i
theorem inW_lt {s : Nat → Nat} (i : Nat) (h : s i < 18446744073709551616) : inW s i < 18446744073709551616 := and_lt (b := fullW i) h
theorem seven {i : Nat} (h : i < 7) : i = 0 ∨ i = 1 ∨ i = 2 ∨ i = 3 ∨ i = 4 ∨ i = 5 ∨ i = 6 := by omega
/-- a block that has just been laid with a set's words -/
theorem wcells_new (w : World) (s : Nat → Nat) (t : TypeId) : WCells (w.alloc (.cells #[.int .u64 (s 0 : Nat), .int .u64 (s 1 : Nat), .int .u64 (s 2 : Nat), .int .u64 (s 3 : Nat), .int .u64 (s 4 : Nat), .int .u64 (s 5 : Nat), .int .u64 (s 6 : Nat)] t)) w.heap.size s := by
  intro i hi
  rcases seven hi with rfl | rfl | rfl | rfl | rfl | rfl | rfl <;> simp [go_sem]
theorem wfree_new (w : World) (s : Nat → Nat) (t : TypeId) : WFree (w.alloc (.cells #[.int .u64 (s 0 : Nat), .int .u64 (s 1 : Nat), .int .u64 (s 2 : Nat), .int .u64 (s 3 : Nat), .int .u64 (s 4 : Nat), .int .u64 (s 5 : Nat), .int .u64 (s 6 : Nat)] t)) w.heap.size := fun i => by simp [go_sem]

theorem infoU64 : (Try.prog.info? 22).map (fun i => (i.zero, i.size, i.bytes)) = some (some (.int .u64 0), 1, 8) := by kernel_rfl
theorem run_index_wv (s : Nat → Nat) (i : Nat) (h : i < 7) (W : World) : (Instr.index 26 (wv s) (.int .i64 i)).run Try.prog W = .ok (.int .u64 (s i : Nat)) W := by
  obtain ⟨i0, hi0, hz0, hz1, hz2⟩ := info_parts infoU64
  rcases seven h with rfl | rfl | rfl | rfl | rfl | rfl | rfl
  all_goals
    simp [Instr.index, wv, go_sem, part, sizeOf, typeInfo, hi0, hz1]

set_option maxRecDepth 100000 in
set_option maxHeartbeats 1600000 in
theorem Within_any (s : Nat → Nat) (w : World) (hs : ∀ i, i < 7 → s i < 18446744073709551616) :
    Calls Try.prog 126 #[wv s] w fun e w' => e = .returned (wv (inW s)) ∧ Below w.heap.size w w' := by
  have c1 := hid (fun W => WFull_any W)
  obtain ⟨W0, hW0⟩ : ∃ W0, (w.alloc (.cells #[.int .u64 (s 0 : Nat), .int .u64 (s 1 : Nat), .int .u64 (s 2 : Nat), .int .u64 (s 3 : Nat), .int .u64 (s 4 : Nat), .int .u64 (s 5 : Nat), .int .u64 (s 6 : Nat)] 26)).alloc (.cells #[.int .u64 0, .int .u64 0, .int .u64 0, .int .u64 0, .int .u64 0, .int .u64 0, .int .u64 0] 26) = W0 := ⟨_, rfl⟩
  have q1 : W0.heap.size = w.heap.size + 2 := by rw [← hW0]; simp
  have q2 : Below w.heap.size w W0 := by rw [← hW0]; exact below_new (below_new (Below.refl _ _) (Nat.le_refl _)) (by simp)
  have q3 : WCells W0 w.heap.size s := by rw [← hW0]; exact (wcells_new w s _).below (below_new (Below.refl _ _) (Nat.le_refl _)) (by simp)
  have q4 : WFree W0 w.heap.size := by rw [← hW0]; exact (wfree_new w s _).below (below_new (Below.refl _ _) (Nat.le_refl _)) (by simp)
  have q5 : WCells W0 (w.heap.size + 1) (fun _ => 0) := by
    rw [← hW0]
    intro i hi
    rcases seven hi with rfl | rfl | rfl | rfl | rfl | rfl | rfl <;> simp [go_sem]
  have q6 : WFree W0 (w.heap.size + 1) := fun i => by rw [← hW0]; simp [go_sem]
  have HW0 := hid hW0
  have HS := hid hs
  have HQ := hid (And.intro q2 (And.intro q3 (And.intro q4 (And.intro q5 q6))))
  clear hW0 hs q2 q3 q4 q5 q6
  go_enter Try.func126, Try.ntmps126
  go_wp2_with fail
  rw [HW0.out]
  refine (c1.out W0).mono ?_
  rintro e w1 ⟨rfl, hB1⟩
  obtain ⟨q2, q3, q4, q5, q6⟩ := HQ.out
  have s1 := hB1.size
  have r3 := hid (q3.below hB1 (by omega))
  have r4 := hid (q4.below hB1 (by omega))
  have r5 := hid (q5.below hB1 (by omega))
  have r6 := hid (q6.below hB1 (by omega))
  have r2 : Hid (Below w.heap.size w w1) := q2.trans (hB1.mono (by omega))
  clear q2 q3 q4 q5 q6 hB1
  go_wp2
  go_loopw [6] (fun v wr => ∃ i : Nat, v = .int .i64 i ∧ i ≤ 7 ∧ Hid (WCells wr w.heap.size (fun j => if j < i then inW s j else s j)) ∧ Hid (WCells wr (w.heap.size + 1) (fun _ => 0)) ∧ Hid (WFree wr w.heap.size) ∧ Hid (WFree wr (w.heap.size + 1)) ∧ Hid (Below w.heap.size w wr)) (fun v _ => 7 - (intOf v).toNat)
  case atStart => exact ⟨0, rfl, by omega, r3.out.congr (fun j hj => by simp), r5.out, r4.out, r6.out, r2.out⟩
  case round =>
    obtain ⟨i, rfl, hi, hc, hc0, hf, hf0, hB⟩ := hrel
    by_cases hlt : i < 7
    · have e1 : wr.cell? ⟨w.heap.size, i, none⟩ = some (.int .u64 (s i : Nat)) := by have := hc.out i hlt; simpa using this
      have e2 := hf.out i
      have hand := hid (bits_and (HS.out i hlt) (fullW_lt i))
      have done : ∀ W', W' = wr.setCell ⟨w.heap.size, i, none⟩ (.int .u64 (bits .and .u64 (s i : Nat) (fullW i : Nat))) → WCells W' w.heap.size (fun j => if j < i + 1 then inW s j else s j) ∧ WCells W' (w.heap.size + 1) (fun _ => 0) ∧ WFree W' w.heap.size ∧ WFree W' (w.heap.size + 1) ∧ Below w.heap.size w W' := by
        rintro W' rfl
        rw [hand.out]
        refine ⟨(hc.out.set (v := inW s i) hlt).congr (fun j hj => ?_), fun j hj => (World.cell?_of_block (w := wr) (a := ⟨w.heap.size + 1, j, none⟩) (Below.heap_setCell _ _ _ _ (by simp))).trans (hc0.out j hj), hf.out.set _ _, hf0.out.set _ _, below_set hB.out (Nat.le_refl _)⟩
        by_cases e : j = i
        · subst e; simp
        · have : (j < i + 1) = (j < i) := by simp; omega
          simp [e, this]
      have Done := hid done
      clear done
      have hix := fun W => run_index_wv fullW i hlt W
      clear hc hc0 hf hf0 hB
      go_wp2
      obtain ⟨d1, d2, d3, d4, d5⟩ := Done.out _ rfl
      exact ⟨⟨i + 1, by go_num, by omega, d1, d2, d3, d4, d5⟩, by simp [intOf]; omega⟩
    · obtain rfl : i = 7 := by omega
      have hc' : WCells wr w.heap.size (inW s) := hc.out.congr (fun j hj => by simp [hj])
      obtain ⟨r0, r1, r2, r3, r4, r5, r6⟩ := hc'.all
      obtain ⟨z0, z1, z2, z3, z4, z5, z6⟩ := hc0.out.all
      have f0 := hf0.out 0
      have f1 := hf0.out 1
      have f2 := hf0.out 2
      have f3 := hf0.out 3
      have f4 := hf0.out 4
      have f5 := hf0.out 5
      have f6 := hf0.out 6
      clear hc hc0 hf hf0 hc'
      go_wp2
      refine bodyPost_ret (v := wv (inW s)) (by simp [results, Try.results126, go_sem, z0, z1, z2, z3, z4, z5, z6]) rfl ⟨rfl, ?_⟩
      exact below_set (below_set (below_set (below_set (below_set (below_set (below_set hB.out (Nat.le_add_right _ _)) (Nat.le_add_right _ _)) (Nat.le_add_right _ _)) (Nat.le_add_right _ _)) (Nat.le_add_right _ _)) (Nat.le_add_right _ _)) (Nat.le_add_right _ _)
end Go.Proofs.Ytndfckpcbiecnaa

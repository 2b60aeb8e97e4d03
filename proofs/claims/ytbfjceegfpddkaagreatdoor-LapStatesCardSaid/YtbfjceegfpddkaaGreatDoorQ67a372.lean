/-
  What the small functions of wide compute: sets of numbers as seven words.
  What within, may, May, Has, Len of wide compute.
  What may, May, Has and Len of wide, and Has and List of feriaref04, compute.
-/
import Derived.Test.YtbfjceegfpddkaaGreatDoorQb1c1ef
import Derived.ChangeKeysEq
import Derived.Deep.RegionHeld3
namespace Go.Proofs.YtbfjceegfpddkaaGreatDoor
open Go.RowKit
set_option linter.unusedVariables false

/-- a set, as a value -/
abbrev wv (s : Nat → Nat) : Value := .agg #[.int .u64 (s 0 : Nat), .int .u64 (s 1 : Nat), .int .u64 (s 2 : Nat), .int .u64 (s 3 : Nat), .int .u64 (s 4 : Nat), .int .u64 (s 5 : Nat), .int .u64 (s 6 : Nat)]
/-- a set, in a block -/
def WCells (W : World) (b : Nat) (s : Nat → Nat) : Prop := ∀ i, i < 7 → W.cell? ⟨b, i, none⟩ = some (.int .u64 (s i : Nat))
theorem WCells.below {W W' : World} {b B : Nat} {s : Nat → Nat} (h : WCells W b s) (hb : Below B W W') (hB : b < B) : WCells W' b s := fun i hi => (hb.cell (p := ⟨b, i, none⟩) hB).trans (h i hi)
theorem WCells.congr {W : World} {b : Nat} {s t : Nat → Nat} (h : WCells W b s) (e : ∀ i, i < 7 → s i = t i) : WCells W b t := fun i hi => by rw [← e i hi]; exact h i hi
theorem WCells.all {W : World} {b : Nat} {s : Nat → Nat} (h : WCells W b s) : W.cell? ⟨b, 0, none⟩ = some (.int .u64 (s 0 : Nat)) ∧ W.cell? ⟨b, 1, none⟩ = some (.int .u64 (s 1 : Nat)) ∧ W.cell? ⟨b, 2, none⟩ = some (.int .u64 (s 2 : Nat)) ∧
    W.cell? ⟨b, 3, none⟩ = some (.int .u64 (s 3 : Nat)) ∧ W.cell? ⟨b, 4, none⟩ = some (.int .u64 (s 4 : Nat)) ∧ W.cell? ⟨b, 5, none⟩ = some (.int .u64 (s 5 : Nat)) ∧ W.cell? ⟨b, 6, none⟩ = some (.int .u64 (s 6 : Nat)) :=
  ⟨h 0 (by omega), h 1 (by omega), h 2 (by omega), h 3 (by omega), h 4 (by omega), h 5 (by omega), h 6 (by omega)⟩
/-- a store into one word -/
theorem WCells.set {W : World} {b i : Nat} {s : Nat → Nat} {v : Nat} (h : WCells W b s) (hi : i < 7) : WCells (W.setCell ⟨b, i, none⟩ (.int .u64 v)) b (fun j => if j = i then v else s j) := by
  intro j hj
  by_cases e : j = i
  · subst e; simp [go_sem, h j hj]
  · simp [go_sem, h j hj, e]

def fullW (i : Nat) : Nat := spanM 0 (399 - 64 * (i : Int)) 1
theorem fullW_lt (i : Nat) : fullW i < 18446744073709551616 := mk_lt _
theorem fullW_test (i k : Nat) : (fullW i).testBit k = (decide (k < 64) && decide (64 * i + k < 400)) := by
  rw [fullW, spanM, mk_test, spanB, Bool.eq_iff_iff]
  simp only [Bool.and_eq_true, decide_eq_true_eq]
  omega

def WFree (W : World) (b : Nat) : Prop := ∀ j, W.frozen? ⟨b, j, none⟩ = false
theorem WFree.below {W W' : World} {b B : Nat} (h : WFree W b) (hb : Below B W W') (hB : b < B) : WFree W' b := fun i => (hb.frozen (p := ⟨b, i, none⟩) hB).trans (h i)
theorem WFree.set {W : World} {b : Nat} (h : WFree W b) (p : Addr) (v : Value) : WFree (W.setCell p v) b := fun j => by simp [go_sem, h j]

set_option maxHeartbeats 800000 in
theorem WFull_any (w : World) : Calls Tryz.prog 133 #[] w fun e w' => e = .returned (wv fullW) ∧ Below w.heap.size w w' := by
  have c1 : Hid (∀ (i : Nat) W, (i : Int) < 7 → Calls Tryz.prog 132 #[.int .i64 0, .int .i64 (399 - (i : Int) * 64), .int .i64 1] W fun e w' => e = .returned (.int .u64 (fullW i)) ∧ W = w') := fun i W h => by
    have := Span_any 0 (399 - 64 * (i : Int)) 1 W (by omega) (by omega)
    rw [Int.mul_comm] at this
    have e : fullW i = spanM 0 (399 - (i : Int) * 64) 1 := by rw [fullW, Int.mul_comm]
    rw [e]; exact this
  go_enter Tryz.func133, Tryz.ntmps133
  go_wp2
  go_loopw [3] (fun v wr => ∃ i : Nat, v = .int .i64 i ∧ i ≤ 7 ∧ Hid (WCells wr (w.heap.size + 1) (fun j => if j < i then fullW j else 0)) ∧ Hid (WCells wr w.heap.size (fun _ => 0)) ∧ Hid (WFree wr (w.heap.size + 1)) ∧ Hid (WFree wr w.heap.size) ∧ Below w.heap.size w wr ∧ wr.heap.size = w.heap.size + 2) (fun v _ => 7 - (intOf v).toNat)
  case atStart =>
    refine ⟨0, rfl, by omega, fun j hj => ?_, fun j hj => ?_, fun j => by simp [go_sem], fun j => by simp [go_sem], below_new (below_new (Below.refl _ _) (Nat.le_refl _)) (by simp), by simp⟩
    · have : j = 0 ∨ j = 1 ∨ j = 2 ∨ j = 3 ∨ j = 4 ∨ j = 5 ∨ j = 6 := by omega
      rcases this with rfl | rfl | rfl | rfl | rfl | rfl | rfl <;> simp [go_sem]
    · have : j = 0 ∨ j = 1 ∨ j = 2 ∨ j = 3 ∨ j = 4 ∨ j = 5 ∨ j = 6 := by omega
      rcases this with rfl | rfl | rfl | rfl | rfl | rfl | rfl <;> simp [go_sem]
  case round =>
    obtain ⟨i, rfl, hi, hc, hc0, hf, hf0, hB, hsz⟩ := hrel
    by_cases hlt : i < 7
    · have e1 := hc.out i hlt
      have e2 := hf.out i
      go_wp2_with fail
      refine (c1.out i wr (by omega)).mono ?_
      rintro e w1 ⟨rfl, rfl⟩
      go_wp2
      refine ⟨⟨i + 1, by go_num, by omega, ?_, ?_, ?_, ?_, below_set hB (by omega), by simpa [go_sem] using hsz⟩, by simp [intOf]; omega⟩
      · exact (hc.out.set (v := fullW i) hlt).congr (fun j hj => by
          by_cases e : j = i
          · subst e; simp
          · have : (j < i + 1) = (j < i) := by simp; omega
            simp [e, this])
      · exact fun j hj => (World.cell?_of_block (w := wr) (a := ⟨w.heap.size, j, none⟩) (Below.heap_setCell _ _ _ _ (by simp))).trans (hc0.out j hj)
      · exact hf.out.set _ _
      · exact hf0.out.set _ _
    · obtain rfl : i = 7 := by omega
      have hc' : WCells wr (w.heap.size + 1) fullW := hc.out.congr (fun j hj => by simp [hj])
      obtain ⟨r0, r1, r2, r3, r4, r5, r6⟩ := hc'.all
      obtain ⟨z0, z1, z2, z3, z4, z5, z6⟩ := hc0.out.all
      have f0 := hf0.out 0
      have f1 := hf0.out 1
      have f2 := hf0.out 2
      have f3 := hf0.out 3
      have f4 := hf0.out 4
      have f5 := hf0.out 5
      have f6 := hf0.out 6
      clear hc hc0 hf hf0 hc'
      go_wp2
      refine bodyPost_ret (v := wv fullW) (by simp [results, Tryz.results133, go_sem, z0, z1, z2, z3, z4, z5, z6]) rfl ⟨rfl, ?_⟩
      exact below_set (below_set (below_set (below_set (below_set (below_set (below_set hB (Nat.le_refl _)) (Nat.le_refl _)) (Nat.le_refl _)) (Nat.le_refl _)) (Nat.le_refl _)) (Nat.le_refl _)) (Nat.le_refl _)
end Go.Proofs.YtbfjceegfpddkaaGreatDoor
namespace Go.Proofs.YtbfjceegfpddkaaGreatDoor
open Go.RowKit
set_option linter.unusedVariables false

def inW (s : Nat → Nat) (i : Nat) : Nat := s i &&& fullW i
theorem inW_lt {s : Nat → Nat} (i : Nat) (h : s i < 18446744073709551616) : inW s i < 18446744073709551616 := and_lt (b := fullW i) h
theorem seven {i : Nat} (h : i < 7) : i = 0 ∨ i = 1 ∨ i = 2 ∨ i = 3 ∨ i = 4 ∨ i = 5 ∨ i = 6 := by omega
/-- a block that has just been laid with a set's words -/
theorem wcells_new (w : World) (s : Nat → Nat) (t : TypeId) : WCells (w.alloc (.cells #[.int .u64 (s 0 : Nat), .int .u64 (s 1 : Nat), .int .u64 (s 2 : Nat), .int .u64 (s 3 : Nat), .int .u64 (s 4 : Nat), .int .u64 (s 5 : Nat), .int .u64 (s 6 : Nat)] t)) w.heap.size s := by
  intro i hi
  rcases seven hi with rfl | rfl | rfl | rfl | rfl | rfl | rfl <;> simp [go_sem]
theorem wfree_new (w : World) (s : Nat → Nat) (t : TypeId) : WFree (w.alloc (.cells #[.int .u64 (s 0 : Nat), .int .u64 (s 1 : Nat), .int .u64 (s 2 : Nat), .int .u64 (s 3 : Nat), .int .u64 (s 4 : Nat), .int .u64 (s 5 : Nat), .int .u64 (s 6 : Nat)] t)) w.heap.size := fun i => by simp [go_sem]

theorem infoU64 : (Tryz.prog.info? 22).map (fun i => (i.zero, i.size, i.bytes)) = some (some (.int .u64 0), 1, 8) := by kernel_rfl
theorem run_index_wv (s : Nat → Nat) (i : Nat) (h : i < 7) (W : World) : (Instr.index 26 (wv s) (.int .i64 i)).run Tryz.prog W = .ok (.int .u64 (s i : Nat)) W := by
  obtain ⟨i0, hi0, hz0, hz1, hz2⟩ := info_parts infoU64
  rcases seven h with rfl | rfl | rfl | rfl | rfl | rfl | rfl
  all_goals
    simp [Instr.index, wv, go_sem, part, sizeOf, typeInfo, hi0, hz1]

set_option maxRecDepth 100000 in
set_option maxHeartbeats 1600000 in
theorem Within_any (s : Nat → Nat) (w : World) (hs : ∀ i, i < 7 → s i < 18446744073709551616) :
    Calls Tryz.prog 139 #[wv s] w fun e w' => e = .returned (wv (inW s)) ∧ Below w.heap.size w w' := by
  have c1 := hid (fun W => WFull_any W)
  obtain ⟨W0, hW0⟩ : ∃ W0, (w.alloc (.cells #[.int .u64 (s 0 : Nat), .int .u64 (s 1 : Nat), .int .u64 (s 2 : Nat), .int .u64 (s 3 : Nat), .int .u64 (s 4 : Nat), .int .u64 (s 5 : Nat), .int .u64 (s 6 : Nat)] 26)).alloc (.cells #[.int .u64 0, .int .u64 0, .int .u64 0, .int .u64 0, .int .u64 0, .int .u64 0, .int .u64 0] 26) = W0 := ⟨_, rfl⟩
  have q1 : W0.heap.size = w.heap.size + 2 := by rw [← hW0]; simp
  have q2 : Below w.heap.size w W0 := by rw [← hW0]; exact below_new (below_new (Below.refl _ _) (Nat.le_refl _)) (by simp)
  have q3 : WCells W0 w.heap.size s := by rw [← hW0]; exact (wcells_new w s _).below (below_new (Below.refl _ _) (Nat.le_refl _)) (by simp)
  have q4 : WFree W0 w.heap.size := by rw [← hW0]; exact (wfree_new w s _).below (below_new (Below.refl _ _) (Nat.le_refl _)) (by simp)
  have q5 : WCells W0 (w.heap.size + 1) (fun _ => 0) := by
    rw [← hW0]
    intro i hi
    rcases seven hi with rfl | rfl | rfl | rfl | rfl | rfl | rfl <;> simp [go_sem]
  have q6 : WFree W0 (w.heap.size + 1) := fun i => by rw [← hW0]; simp [go_sem]
  have HW0 := hid hW0
  have HS := hid hs
  have HQ := hid (And.intro q2 (And.intro q3 (And.intro q4 (And.intro q5 q6))))
  clear hW0 hs q2 q3 q4 q5 q6
  go_enter Tryz.func139, Tryz.ntmps139
  go_wp2_with fail
  rw [HW0.out]
  refine (c1.out W0).mono ?_
  rintro e w1 ⟨rfl, hB1⟩
  obtain ⟨q2, q3, q4, q5, q6⟩ := HQ.out
  have s1 := hB1.size
  have r3 := hid (q3.below hB1 (by omega))
  have r4 := hid (q4.below hB1 (by omega))
  have r5 := hid (q5.below hB1 (by omega))
  have r6 := hid (q6.below hB1 (by omega))
  have r2 : Hid (Below w.heap.size w w1) := q2.trans (hB1.mono (by omega))
  clear q2 q3 q4 q5 q6 hB1
  go_wp2
  go_loopw [6] (fun v wr => ∃ i : Nat, v = .int .i64 i ∧ i ≤ 7 ∧ Hid (WCells wr w.heap.size (fun j => if j < i then inW s j else s j)) ∧ Hid (WCells wr (w.heap.size + 1) (fun _ => 0)) ∧ Hid (WFree wr w.heap.size) ∧ Hid (WFree wr (w.heap.size + 1)) ∧ Hid (Below w.heap.size w wr)) (fun v _ => 7 - (intOf v).toNat)
  case atStart => exact ⟨0, rfl, by omega, r3.out.congr (fun j hj => by simp), r5.out, r4.out, r6.out, r2.out⟩
  case round =>
    obtain ⟨i, rfl, hi, hc, hc0, hf, hf0, hB⟩ := hrel
    by_cases hlt : i < 7
    · have e1 : wr.cell? ⟨w.heap.size, i, none⟩ = some (.int .u64 (s i : Nat)) := by have := hc.out i hlt; simpa using this
      have e2 := hf.out i
      have hand := hid (bits_and (HS.out i hlt) (fullW_lt i))
      have done : ∀ W', W' = wr.setCell ⟨w.heap.size, i, none⟩ (.int .u64 (bits .and .u64 (s i : Nat) (fullW i : Nat))) → WCells W' w.heap.size (fun j => if j < i + 1 then inW s j else s j) ∧ WCells W' (w.heap.size + 1) (fun _ => 0) ∧ WFree W' w.heap.size ∧ WFree W' (w.heap.size + 1) ∧ Below w.heap.size w W' := by
        rintro W' rfl
        rw [hand.out]
        refine ⟨(hc.out.set (v := inW s i) hlt).congr (fun j hj => ?_), fun j hj => (World.cell?_of_block (w := wr) (a := ⟨w.heap.size + 1, j, none⟩) (Below.heap_setCell _ _ _ _ (by simp))).trans (hc0.out j hj), hf.out.set _ _, hf0.out.set _ _, below_set hB.out (Nat.le_refl _)⟩
        by_cases e : j = i
        · subst e; simp
        · have : (j < i + 1) = (j < i) := by simp; omega
          simp [e, this]
      have Done := hid done
      clear done
      have hix := fun W => run_index_wv fullW i hlt W
      clear hc hc0 hf hf0 hB
      go_wp2
      obtain ⟨d1, d2, d3, d4, d5⟩ := Done.out _ rfl
      exact ⟨⟨i + 1, by go_num, by omega, d1, d2, d3, d4, d5⟩, by simp [intOf]; omega⟩
    · obtain rfl : i = 7 := by omega
      have hc' : WCells wr w.heap.size (inW s) := hc.out.congr (fun j hj => by simp [hj])
      obtain ⟨r0, r1, r2, r3, r4, r5, r6⟩ := hc'.all
      obtain ⟨z0, z1, z2, z3, z4, z5, z6⟩ := hc0.out.all
      have f0 := hf0.out 0
      have f1 := hf0.out 1
      have f2 := hf0.out 2
      have f3 := hf0.out 3
      have f4 := hf0.out 4
      have f5 := hf0.out 5
      have f6 := hf0.out 6
      clear hc hc0 hf hf0 hc'
      go_wp2
      refine bodyPost_ret (v := wv (inW s)) (by simp [results, Tryz.results139, go_sem, z0, z1, z2, z3, z4, z5, z6]) rfl ⟨rfl, ?_⟩
      exact below_set (below_set (below_set (below_set (below_set (below_set (below_set hB.out (Nat.le_add_right _ _)) (Nat.le_add_right _ _)) (Nat.le_add_right _ _)) (Nat.le_add_right _ _)) (Nat.le_add_right _ _)) (Nat.le_add_right _ _)) (Nat.le_add_right _ _)
end Go.Proofs.YtbfjceegfpddkaaGreatDoor
namespace Go.Proofs.YtbfjceegfpddkaaGreatDoor
open Go.RowKit
set_option linter.unusedVariables false

def eqW (s t : Nat → Nat) : Bool := (List.range 7).all (fun i => s i == t i)
theorem eqW_iff (s t : Nat → Nat) : eqW s t = true ↔ ∀ i, i < 7 → s i = t i := by
  rw [eqW, List.all_eq_true]
  simp
theorem part_wv (s : Nat → Nat) (i : Nat) (h : i < 7) (W : World) : (part 22 #[.int .u64 (s 0 : Nat), .int .u64 (s 1 : Nat), .int .u64 (s 2 : Nat), .int .u64 (s 3 : Nat), .int .u64 (s 4 : Nat), .int .u64 (s 5 : Nat), .int .u64 (s 6 : Nat)] (i * Tryz.prog.cellsOf 22)).run Tryz.prog W = .ok (.int .u64 (s i : Nat)) W := by
  rw [show Tryz.prog.cellsOf 22 = 1 by kernel_rfl]
  rcases seven h with rfl | rfl | rfl | rfl | rfl | rfl | rfl
  all_goals
    simp [go_sem, part]
theorem run_eql_wv (s t : Nat → Nat) (W : World) : (binOp .eql 26 (wv s) (wv t)).run Tryz.prog W = .ok (.bool (eqW s t)) W := by
  obtain ⟨i0, hi0, hz0, hz1, hz2⟩ := info_parts infoU64
  rw [run_eql_struct, show (10000 : Nat) = 9999 + 1 from rfl, run_equalIn_array W 9999 _ _ Tryz.underlying26 hi0, eqW]
  have hl : ∀ i ∈ List.range 7, i < 7 := fun i hi => by simpa using hi
  generalize List.range 7 = l at hl ⊢
  have key : (Op.eqItems 9999 22 (Tryz.prog.cellsOf 22) #[.int .u64 (s 0 : Nat), .int .u64 (s 1 : Nat), .int .u64 (s 2 : Nat), .int .u64 (s 3 : Nat), .int .u64 (s 4 : Nat), .int .u64 (s 5 : Nat), .int .u64 (s 6 : Nat)]
      #[.int .u64 (t 0 : Nat), .int .u64 (t 1 : Nat), .int .u64 (t 2 : Nat), .int .u64 (t 3 : Nat), .int .u64 (t 4 : Nat), .int .u64 (t 5 : Nat), .int .u64 (t 6 : Nat)] l).run Tryz.prog W = .ok (l.all (fun i => s i == t i)) W := by
    induction l with
    | nil => simp [Op.eqItems]
    | cons i l ih =>
      have hi : i < 7 := hl i (by simp)
      have pe : (Op.equalIn 9999 22 (.int .u64 (s i : Nat)) (.int .u64 (t i : Nat))).run Tryz.prog W = .ok ((s i : Int) == (t i : Int)) W := by
        rw [show (9999 : Nat) = 9998 + 1 from rfl, run_equalIn_int W 9998 22 .u64 .u64 _ _ Tryz.underlying22]
      simp only [Op.eqItems, Sem.run_bind, part_wv s i hi W, part_wv t i hi W, pe, Result.andThen_ok, List.all_cons]
      have hb : ((s i : Int) == (t i : Int)) = (s i == t i) := by rw [Bool.eq_iff_iff]; simp; omega
      rw [hb]
      cases hc : (s i == t i)
      · simp
      · simp only [Bool.not_true, Bool.false_eq_true, if_false, Bool.true_and]
        exact ih fun j hj => hl j (by simp [hj])
  rw [key]
  rfl

def mayB (n : Int) : Bool := decide (0 ≤ n) && decide (n < 400)
theorem WMayN_any (n : Int) (w : World) : Calls Tryz.prog 122 #[.int .i64 n] w fun e w' => e = .returned (.bool (mayB n)) ∧ w = w' := by
  unfold mayB
  by_cases h0 : 0 ≤ n
  · by_cases h1 : n < 400
    · go_enter Tryz.func122, Tryz.ntmps122
      go_wp2
      go_ret
      exact ⟨ret_bool (by rw [Bool.eq_iff_iff]; simp; omega), rfl⟩
    · go_enter Tryz.func122, Tryz.ntmps122
      go_wp2
      go_ret
      exact ⟨ret_bool (by rw [Bool.eq_iff_iff]; simp; omega), rfl⟩
  · go_enter Tryz.func122, Tryz.ntmps122
    go_wp2
    go_ret
    exact ⟨ret_bool (by rw [Bool.eq_iff_iff]; simp; omega), rfl⟩

/-- the box of a set -/
abbrev BoxS (w : World) (s : Nat → Nat) (W : World) : Prop :=
  W.cell? ⟨w.heap.size, 0, none⟩ = some (.int .u64 (s 0 : Nat)) ∧ W.cell? ⟨w.heap.size, 1, none⟩ = some (.int .u64 (s 1 : Nat)) ∧ W.cell? ⟨w.heap.size, 2, none⟩ = some (.int .u64 (s 2 : Nat)) ∧ W.cell? ⟨w.heap.size, 3, none⟩ = some (.int .u64 (s 3 : Nat)) ∧
  W.cell? ⟨w.heap.size, 4, none⟩ = some (.int .u64 (s 4 : Nat)) ∧ W.cell? ⟨w.heap.size, 5, none⟩ = some (.int .u64 (s 5 : Nat)) ∧ W.cell? ⟨w.heap.size, 6, none⟩ = some (.int .u64 (s 6 : Nat)) ∧ Below w.heap.size w W ∧ w.heap.size < W.heap.size
theorem BoxS.keep {w W W' : World} {s : Nat → Nat} (h : BoxS w s W) (hb : Below W.heap.size W W') : BoxS w s W' := by
  obtain ⟨h0, h1, h2, h3, h4, h5, h6, h7, h8⟩ := h
  exact ⟨(hb.cell (p := ⟨w.heap.size, 0, none⟩) h8).trans h0, (hb.cell (p := ⟨w.heap.size, 1, none⟩) h8).trans h1, (hb.cell (p := ⟨w.heap.size, 2, none⟩) h8).trans h2, (hb.cell (p := ⟨w.heap.size, 3, none⟩) h8).trans h3,
    (hb.cell (p := ⟨w.heap.size, 4, none⟩) h8).trans h4, (hb.cell (p := ⟨w.heap.size, 5, none⟩) h8).trans h5, (hb.cell (p := ⟨w.heap.size, 6, none⟩) h8).trans h6, h7.trans (hb.mono (by omega)), Nat.lt_of_lt_of_le h8 hb.size⟩

set_option maxHeartbeats 800000 in
theorem WMay_any (s : Nat → Nat) (w : World) (hs : ∀ i, i < 7 → s i < 18446744073709551616) :
    Calls Tryz.prog 100 #[wv s] w fun e w' => e = .returned (.bool (eqW (inW s) s)) ∧ Below w.heap.size w w' := by
  have c1 := hid (fun W => Within_any s W hs)
  have heq := fun W => run_eql_wv (inW s) s W
  have hB0 : Below w.heap.size w (w.alloc (.cells #[.int .u64 (s 0 : Nat), .int .u64 (s 1 : Nat), .int .u64 (s 2 : Nat), .int .u64 (s 3 : Nat), .int .u64 (s 4 : Nat), .int .u64 (s 5 : Nat), .int .u64 (s 6 : Nat)] 26)) := below_new (Below.refl _ _) (Nat.le_refl _)
  have HS0 : Hid (BoxS w s (w.alloc (.cells #[.int .u64 (s 0 : Nat), .int .u64 (s 1 : Nat), .int .u64 (s 2 : Nat), .int .u64 (s 3 : Nat), .int .u64 (s 4 : Nat), .int .u64 (s 5 : Nat), .int .u64 (s 6 : Nat)] 26)).drew) := by
    obtain ⟨r0, r1, r2, r3, r4, r5, r6⟩ := (wcells_new w s 26).all
    exact ⟨r0, r1, r2, r3, r4, r5, r6, hB0.drew, by simp [go_sem]⟩
  have c2 := hid (fun W (h : BoxS w s W) => keep_of (c1.out W) (fun _ => h.keep))
  clear hB0
  go_enter Tryz.func100, Tryz.ntmps100
  go_wp2_with fail
  go_region_held3 (fun w' => BoxS w s w') (first | exact HS0.out | assumption)
    (first
      | (go_at_call 139; refine (c2.out _ (by assumption)).mono ?_; rintro e w' ⟨rfl, hS⟩))
  go_wp2
  go_ret
  exact ⟨rfl, (‹BoxS w s _›).2.2.2.2.2.2.2.1⟩

/-- which numbers a set has -/
def bitW (s : Nat → Nat) (k : Nat) : Bool := (s (k / 64)).testBit (k % 64)
def hasW (s : Nat → Nat) (n : Int) : Bool := mayB n && bitW s n.toNat

set_option maxHeartbeats 800000 in
theorem WHas_any (s : Nat → Nat) (n : Int) (w : World) (hs : ∀ i, i < 7 → s i < 18446744073709551616) :
    Calls Tryz.prog 71 #[wv s, .int .i64 n] w fun e w' => e = .returned (.bool (hasW s n)) ∧ Below w.heap.size w w' := by
  have c1 := hid (fun W => WMayN_any n W)
  unfold hasW
  by_cases hb : mayB n = true
  · rw [hb] at c1 ⊢
    rw [mayB] at hb
    simp at hb
    obtain ⟨k, rfl⟩ : ∃ k : Nat, n = k := ⟨n.toNat, by omega⟩
    have hk : k < 400 := by omega
    have hc := wcells_new w s 26
    have e1 := hc (k / 64) (by omega)
    have c2 := hid (fun W => Has_any (s (k / 64)) ((k % 64 : Nat) : Int) W (hs _ (by omega)))
    rw [hasB_nat, show ((k % 64 : Nat) : Int) = (k : Int) % 64 by simp] at c2
    have hlt : k / 64 < 7 := by omega
    clear hb hc
    go_enter Tryz.func71, Tryz.ntmps71
    go_wp2_with fail
    refine (c1.out _).mono ?_
    rintro e w' ⟨rfl, rfl⟩
    go_wp2_with fail
    refine (c2.out _).mono ?_
    rintro e w' ⟨rfl, rfl⟩
    go_wp2
    go_ret
    exact ⟨by simp [bitW], below_new (Below.refl _ _) (Nat.le_refl _)⟩
  · have hb' : mayB n = false := by simpa using hb
    rw [hb'] at c1 ⊢
    clear hb hb'
    go_enter Tryz.func71, Tryz.ntmps71
    go_wp2_with fail
    refine (c1.out _).mono ?_
    rintro e w' ⟨rfl, rfl⟩
    go_wp2
    go_ret
    exact ⟨rfl, below_new (Below.refl _ _) (Nat.le_refl _)⟩

set_option maxHeartbeats 800000 in
theorem RHasW_any (s : Nat → Nat) (n : Int) (w : World) (hs : ∀ i, i < 7 → s i < 18446744073709551616) :
    Calls Tryz.prog 131 #[wv s, .int .i64 n] w fun e w' => e = .returned (.bool (hasW s n)) ∧ Below w.heap.size w w' := by
  unfold hasW
  by_cases h0 : 0 ≤ n
  · by_cases h1 : n < 400
    · have hb : mayB n = true := by simp [mayB]; omega
      rw [hb]
      obtain ⟨k, rfl⟩ : ∃ k : Nat, n = k := ⟨n.toNat, by omega⟩
      have hk : k < 400 := by omega
      have hc := wcells_new w s 26
      have e1 := hc (k / 64) (by omega)
      have c2 := hid (fun W => RHas_any (s (k / 64)) ((k % 64 : Nat) : Int) W (hs _ (by omega)))
      rw [hasB_nat, show ((k % 64 : Nat) : Int) = (k : Int) % 64 by simp] at c2
      have hm7 : k / 64 % 7 = k / 64 := by omega
      have hlt : k / 64 < 7 := by omega
      have e1' : (w.alloc (.cells #[.int .u64 (s 0 : Nat), .int .u64 (s 1 : Nat), .int .u64 (s 2 : Nat), .int .u64 (s 3 : Nat), .int .u64 (s 4 : Nat), .int .u64 (s 5 : Nat), .int .u64 (s 6 : Nat)] 26)).cell? ⟨w.heap.size, k / 64 % 7, none⟩ = some (.int .u64 (s (k / 64) : Nat)) := by rw [hm7]; exact e1
      have hlt' : k / 64 % 7 < 7 := by omega
      have hkI : (k : Int) < 400 := by omega
      have Hk := hid hk
      clear hc hb h0 h1 hm7 hk e1 hlt
      by_cases hk0 : 0 < k
      · go_enter Tryz.func131, Tryz.ntmps131
        go_wp2_with fail
        refine (c2.out _).mono ?_
        rintro e w' ⟨rfl, rfl⟩
        go_wp2
        go_ret
        exact ⟨by simp [bitW], below_new (Below.refl _ _) (Nat.le_refl _)⟩
      · obtain rfl : k = 0 := by omega
        have c3 : Hid (∀ W, Calls Tryz.prog 130 #[.int .u64 (s 0 : Nat), .int .i64 0] W fun e w' => e = .returned (.bool ((s 0).testBit 0)) ∧ W = w') := fun W => RHas_any (s 0) 0 W (hs 0 (by omega))
        have f1 := (wcells_new w s 26) 0 (by omega)
        clear e1' hlt' c2 hkI hk0
        go_enter Tryz.func131, Tryz.ntmps131
        go_wp2_with fail
        refine (c3.out _).mono ?_
        rintro e w' ⟨rfl, rfl⟩
        go_wp2
        go_ret
        exact ⟨by simp [bitW], below_new (Below.refl _ _) (Nat.le_refl _)⟩
    · have hb : mayB n = false := by simp [mayB]; omega
      rw [hb]
      clear hb
      go_enter Tryz.func131, Tryz.ntmps131
      go_wp2
      go_ret
      exact ⟨rfl, below_new (Below.refl _ _) (Nat.le_refl _)⟩
  · have hb : mayB n = false := by simp [mayB]; omega
    rw [hb]
    clear hb
    go_enter Tryz.func131, Tryz.ntmps131
    go_wp2
    go_ret
    exact ⟨rfl, below_new (Below.refl _ _) (Nat.le_refl _)⟩

def lenW (t : Nat → Nat) : Nat → Nat
  | 0 => 0
  | n + 1 => lenW t n + Lib.popAux 64 (t n)
theorem lenW_succ (t : Nat → Nat) (n : Nat) : lenW t (n + 1) = lenW t n + Lib.popAux 64 (t n) := rfl
theorem lenW_le (t : Nat → Nat) : ∀ n, lenW t n ≤ 64 * n
  | 0 => Nat.le_refl _
  | n + 1 => by
    have := lenW_le t n
    have h : Lib.popAux 64 (t n) ≤ 64 := by rw [← sel_pop]; exact sel_len _ _
    rw [lenW]; omega
def lenOf (s : Nat → Nat) : Nat := lenW (inW s) 7
end Go.Proofs.YtbfjceegfpddkaaGreatDoor

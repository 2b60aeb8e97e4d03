/-
  clause.May and feriaref13.May: whether a clause may be.
-/
import Derived.Test.YtgiecadlliblpaaGreatClOrd
import Derived.Test.YtgiecadlliblpaaGreatClFull
namespace Go.Proofs.YtgiecadlliblpaaGreat
open Go.RowKit
set_option linter.unusedVariables false

def mask7B (m : Nat → Nat) : Bool := bitsB (m 0) 0 59 && (bitsB (m 1) 0 59 && (bitsB (m 2) 0 23 && (bitsB (m 3) 1 12 && (bitsB (m 4) 1 31 && (bitsB (m 5) 1 31 && bitsB (m 6) 1 7)))))
def mayC (c : Cl) : Bool := mask7B c.m && (ordB c.oin c.oback c.od && (eqW (inW c.ys) c.ys && (unB c.unit && (decide (1 ≤ c.step) && winB c.anchor))))
theorem within_mask (m : Nat → Nat) : withinB [(m 0, fullM 0), (m 1, fullM 1), (m 2, fullM 2), (m 3, fullM 3), (m 4, fullM 4), (m 5, fullM 5), (m 6, fullM 6)] = mask7B m := by
  have e : ∀ x lo hi, (lessM x (spanM lo hi 1) == 0) = bitsB x lo hi := fun x lo hi => by
    rw [Bool.eq_iff_iff, beq_iff_eq, less_span]
  have f0 : fullM 0 = spanM 0 59 1 := rfl
  have f1 : fullM 1 = spanM 0 59 1 := rfl
  have f2 : fullM 2 = spanM 0 23 1 := rfl
  have f3 : fullM 3 = spanM 1 12 1 := rfl
  have f4 : fullM 4 = spanM 1 31 1 := rfl
  have f5 : fullM 5 = spanM 1 31 1 := rfl
  have f6 : fullM 6 = spanM 1 7 1 := rfl
  simp only [withinB, List.all_cons, List.all_nil, Bool.and_true, mask7B, f0, f1, f2, f3, f4, f5, f6, e]

abbrev nameL : List Value := [.string { data := #[83, 69, 67, 79, 78, 68, 76, 89] }, .string { data := #[77, 73, 78, 85, 84, 69, 76, 89] }, .string { data := #[72, 79, 85, 82, 76, 89] }, .string { data := #[68, 65, 73, 76, 89] }, .string { data := #[87, 69, 69, 75, 76, 89] }, .string { data := #[77, 79, 78, 84, 72, 76, 89] }, .string { data := #[89, 69, 65, 82, 76, 89] }]
theorem Names_any (w : World) : Calls Tryz.prog 59 #[] w fun e w' => e = .returned (.agg nameL.toArray) ∧ Below w.heap.size w w' := by
  go_enter Tryz.func59, Tryz.ntmps59
  go_wp2
  refine bodyPost_ret (results_cell_mid rfl _ _ w.heap.size 0 _ _ rfl (range_new w _ _) Tryz.underlying90 rfl (by kernel_rfl)) rfl ⟨rfl, below_new (Below.refl _ _) (Nat.le_refl _)⟩
theorem infoStr : (Tryz.prog.info? 9).map (fun i => (i.zero, i.size, i.bytes)) = some (some (.string { data := #[] }), 1, 16) := by kernel_rfl
theorem run_index_names (V : Value) (hV : V = .agg nameL.toArray) (W : World) : (Instr.index 90 V (.int .i64 0)).run Tryz.prog W = .ok (.string { data := #[83, 69, 67, 79, 78, 68, 76, 89] }) W ∧ (Instr.index 90 V (.int .i64 1)).run Tryz.prog W = .ok (.string { data := #[77, 73, 78, 85, 84, 69, 76, 89] }) W ∧ (Instr.index 90 V (.int .i64 2)).run Tryz.prog W = .ok (.string { data := #[72, 79, 85, 82, 76, 89] }) W ∧ (Instr.index 90 V (.int .i64 3)).run Tryz.prog W = .ok (.string { data := #[68, 65, 73, 76, 89] }) W ∧ (Instr.index 90 V (.int .i64 4)).run Tryz.prog W = .ok (.string { data := #[87, 69, 69, 75, 76, 89] }) W ∧ (Instr.index 90 V (.int .i64 5)).run Tryz.prog W = .ok (.string { data := #[77, 79, 78, 84, 72, 76, 89] }) W ∧ (Instr.index 90 V (.int .i64 6)).run Tryz.prog W = .ok (.string { data := #[89, 69, 65, 82, 76, 89] }) W := by
  obtain ⟨i0, hi0, hz0, hz1, hz2⟩ := info_parts infoStr
  rw [hV]
  refine ⟨?_, ?_, ?_, ?_, ?_, ?_, ?_⟩ <;> simp [Instr.index, go_sem, part, sizeOf, typeInfo, hi0, hz1]
set_option maxRecDepth 100000 in
theorem Name_any (u : Int) (w : World) : Calls Tryz.prog 32 #[.int .i64 u] w fun e w' => (∃ s : ByteArray, e = .returned (.string s) ∧ (s.toList == []) = !unB u) ∧ Below w.heap.size w w' := by
  obtain ⟨V, hV⟩ : ∃ V : Value, V = .agg nameL.toArray := ⟨_, rfl⟩
  have c1 : Hid (∀ W, Calls Tryz.prog 59 #[] W fun e w' => e = .returned V ∧ Below W.heap.size W w') := fun W => by rw [hV]; exact Names_any W
  have hix := hid (fun W => run_index_names V hV W)
  clear hV
  rcases unB_cases u with ⟨e, h0, h1⟩ | ⟨e, h⟩
  · rw [e]
    have hcase : u = 0 ∨ u = 1 ∨ u = 2 ∨ u = 3 ∨ u = 4 ∨ u = 5 ∨ u = 6 := by omega
    clear e h0 h1
    rcases hcase with rfl | rfl | rfl | rfl | rfl | rfl | rfl
    all_goals
      go_enter Tryz.func32, Tryz.ntmps32
      go_wp2_with fail
      refine (c1.out _).mono ?_
      rintro e w1 ⟨rfl, hB1⟩
      have HB1 := hid hB1
      obtain ⟨i0, i1, i2, i3, i4, i5, i6⟩ := hix.out w1
      clear hB1
      go_wp2
      go_ret
      exact ⟨⟨_, rfl, by kernel_rfl⟩, HB1.out⟩
  · rw [e]
    clear e
    rcases h with h | h
    · go_enter Tryz.func32, Tryz.ntmps32
      go_wp2
      go_ret
      exact ⟨⟨_, rfl, by kernel_rfl⟩, Below.refl _ _⟩
    · have h0 : ¬ u < 0 := by omega
      have h7 : 7 ≤ u := by omega
      go_enter Tryz.func32, Tryz.ntmps32
      go_wp2
      go_ret
      exact ⟨⟨_, rfl, by kernel_rfl⟩, Below.refl _ _⟩

/-- a clause, in a block -/
def ClB (W : World) (b : Nat) (c : Cl) : Prop := W.rangeAt b 0 (clList c)
theorem ClB.below {W W' : World} {b B : Nat} {c : Cl} (h : ClB W b c) (hb : Below B W W') (hB : b < B) : ClB W' b c := fun j v hv => (hb.cell (p := ⟨b, 0 + j, none⟩) hB).trans (h j v hv)
theorem clB_new (w : World) (c : Cl) (t : TypeId) : ClB (w.alloc (.cells (clList c).toArray t)) w.heap.size c := range_new w _ _
theorem ClB.at {W : World} {b : Nat} {c : Cl} (h : ClB W b c) (j : Nat) {v : Value} (hv : (clList c)[j]? = some v) : W.cell? ⟨b, j, none⟩ = some v := by
  have := h j v hv
  rwa [Nat.zero_add] at this
theorem ClB.masks {W : World} {b : Nat} {c : Cl} (h : ClB W b c) : W.cell? ⟨b, 0, none⟩ = some (.int .u64 (c.m 0 : Nat)) ∧ W.cell? ⟨b, 1, none⟩ = some (.int .u64 (c.m 1 : Nat)) ∧ W.cell? ⟨b, 2, none⟩ = some (.int .u64 (c.m 2 : Nat)) ∧
    W.cell? ⟨b, 3, none⟩ = some (.int .u64 (c.m 3 : Nat)) ∧ W.cell? ⟨b, 4, none⟩ = some (.int .u64 (c.m 4 : Nat)) ∧ W.cell? ⟨b, 5, none⟩ = some (.int .u64 (c.m 5 : Nat)) ∧ W.cell? ⟨b, 6, none⟩ = some (.int .u64 (c.m 6 : Nat)) :=
  ⟨h.at 0 rfl, h.at 1 rfl, h.at 2 rfl, h.at 3 rfl, h.at 4 rfl, h.at 5 rfl, h.at 6 rfl⟩
theorem ClB.ord {W : World} {b : Nat} {c : Cl} (h : ClB W b c) : W.cell? ⟨b, 8, none⟩ = some (.int .i64 c.oin) ∧ W.cell? ⟨b, 9, none⟩ = some (.bool c.oback) ∧ W.cell? ⟨b, 10, none⟩ = some (.int .u64 (c.od 0 : Nat)) ∧ W.cell? ⟨b, 11, none⟩ = some (.int .u64 (c.od 1 : Nat)) ∧
    W.cell? ⟨b, 12, none⟩ = some (.int .u64 (c.od 2 : Nat)) ∧ W.cell? ⟨b, 13, none⟩ = some (.int .u64 (c.od 3 : Nat)) ∧ W.cell? ⟨b, 14, none⟩ = some (.int .u64 (c.od 4 : Nat)) ∧ W.cell? ⟨b, 15, none⟩ = some (.int .u64 (c.od 5 : Nat)) ∧
    W.cell? ⟨b, 16, none⟩ = some (.int .u64 (c.od 6 : Nat)) ∧ W.cell? ⟨b, 17, none⟩ = some (.int .u64 (c.od 7 : Nat)) :=
  ⟨h.at 8 rfl, h.at 9 rfl, h.at 10 rfl, h.at 11 rfl, h.at 12 rfl, h.at 13 rfl, h.at 14 rfl, h.at 15 rfl, h.at 16 rfl, h.at 17 rfl⟩
theorem ClB.years {W : World} {b : Nat} {c : Cl} (h : ClB W b c) : W.cell? ⟨b, 18, none⟩ = some (.int .u64 (c.ys 0 : Nat)) ∧ W.cell? ⟨b, 19, none⟩ = some (.int .u64 (c.ys 1 : Nat)) ∧ W.cell? ⟨b, 20, none⟩ = some (.int .u64 (c.ys 2 : Nat)) ∧ W.cell? ⟨b, 21, none⟩ = some (.int .u64 (c.ys 3 : Nat)) ∧
    W.cell? ⟨b, 22, none⟩ = some (.int .u64 (c.ys 4 : Nat)) ∧ W.cell? ⟨b, 23, none⟩ = some (.int .u64 (c.ys 5 : Nat)) ∧ W.cell? ⟨b, 24, none⟩ = some (.int .u64 (c.ys 6 : Nat)) :=
  ⟨h.at 18 rfl, h.at 19 rfl, h.at 20 rfl, h.at 21 rfl, h.at 22 rfl, h.at 23 rfl, h.at 24 rfl⟩
theorem ClB.tail {W : World} {b : Nat} {c : Cl} (h : ClB W b c) : W.cell? ⟨b, 25, none⟩ = some (.int .i64 c.unit) ∧ W.cell? ⟨b, 26, none⟩ = some (.int .i64 c.step) ∧ W.cell? ⟨b, 27, none⟩ = some (.int .i64 c.anchor) ∧ W.cell? ⟨b, 28, none⟩ = some (.int .i64 c.fr) ∧ W.cell? ⟨b, 29, none⟩ = some (.int .i64 c.un) :=
  ⟨h.at 25 rfl, h.at 26 rfl, h.at 27 rfl, h.at 28 rfl, h.at 29 rfl⟩

theorem sl_range {W : World} {b : Nat} {cs : List Value} (h : W.rangeAt b 0 cs) (hb : b < W.heap.size) : Sl W (some ⟨b, 0, none⟩) cs := .inr ⟨b, 0, rfl, hb, fun j hj => h j _ (List.getElem?_eq_getElem hj)⟩
attribute [local go_sem ↓] storeAt_cl
attribute [local go_sem] run_storeClS
/-- the cells of a clause that is zero -/
abbrev zL : List Value := [.int .u64 0, .int .u64 0, .int .u64 0, .int .u64 0, .int .u64 0, .int .u64 0, .int .u64 0, .bool false, .int .i64 0, .bool false, .int .u64 0, .int .u64 0, .int .u64 0, .int .u64 0, .int .u64 0, .int .u64 0, .int .u64 0, .int .u64 0, .int .u64 0, .int .u64 0, .int .u64 0, .int .u64 0, .int .u64 0, .int .u64 0, .int .u64 0, .int .i64 0, .int .i64 0, .int .i64 0, .int .i64 0, .int .i64 0]
set_option maxRecDepth 100000 in
set_option maxHeartbeats 3200000 in
theorem CMayCl_any (c : Cl) (w : World) (hc : c.Ok) : Calls Tryz.prog 15 #[clv c] w fun e w' => e = .returned (.bool (mayC c)) ∧ Below w.heap.size w w' := by
  have c0 := hid (fun W => Full_any W)
  obtain ⟨F, hF⟩ : ∃ F, fullCl = F := ⟨_, rfl⟩
  have HF : Hid (∀ i, F.m i = fullM i) := fun i => by rw [← hF]; rfl
  rw [hF] at c0
  clear hF
  have hC := hid (clB_new w c 40)
  have hB0 : Hid (Below w.heap.size w (w.alloc (.cells (clList c).toArray 40))) := below_new (Below.refl _ _) (Nat.le_refl _)
  have cO := hid (fun W => COrdinal_any c.oin c.oback c.od W hc.oin hc.od)
  have cY := hid (fun W => WMay_any c.ys W hc.ys)
  have cN := hid (fun W => Name_any c.unit W)
  have cM := hid (fun W => MIn_any c.anchor W)
  have hres : Hid (mayC c = (mask7B c.m && (ordB c.oin c.oback c.od && (eqW (inW c.ys) c.ys && (unB c.unit && (decide (1 ≤ c.step) && winB c.anchor)))))) := rfl
  rw [hres.out]
  obtain ⟨b1, hb1⟩ : ∃ b, mask7B c.m = b := ⟨_, rfl⟩
  obtain ⟨b2, hb2⟩ : ∃ b, ordB c.oin c.oback c.od = b := ⟨_, rfl⟩
  obtain ⟨b3, hb3⟩ : ∃ b, eqW (inW c.ys) c.ys = b := ⟨_, rfl⟩
  obtain ⟨b4, hb4⟩ : ∃ b, unB c.unit = b := ⟨_, rfl⟩
  obtain ⟨b6, hb6⟩ : ∃ b, winB c.anchor = b := ⟨_, rfl⟩
  obtain ⟨b5, hb5⟩ : ∃ b, decide (1 ≤ c.step) = b := ⟨_, rfl⟩
  rw [hb1]
  have Hb1 := hid hb1
  rw [hb2] at cO ⊢
  rw [hb3] at cY ⊢
  rw [hb4] at cN ⊢
  rw [hb6] at cM ⊢
  rw [hb5]
  have Hb5 := hid hb5
  clear hb1 hb2 hb3 hb4 hb5 hb6 hres
  go_enter Tryz.func15, Tryz.ntmps15
  go_wp2_with fail
  refine (c0.out _).mono ?_
  rintro e w1 ⟨rfl, hB1⟩
  have hC1 := hC.out.below hB1 (by simp)
  have HB1 : Hid (Below w.heap.size w w1) := hB0.out.trans (hB1.mono (by simp))
  have hs1 : w.heap.size < w1.heap.size := by have := hB1.size; simp at this; omega
  clear hB1
  have hth : (w1.alloc (.cells zL.toArray 40)).there w1.heap.size 0 30 := there_new w1 _ _
  have hF2 : ClB (putCl (w1.alloc (.cells zL.toArray 40)) w1.heap.size (clList F)) w1.heap.size F := putCl_range _ rfl hth
  have hBa : Below w1.heap.size w1 (putCl (w1.alloc (.cells zL.toArray 40)) w1.heap.size (clList F)) := putCl_below (below_new (Below.refl _ _) (Nat.le_refl _)) (Nat.le_refl _) _
  have hCa := hC1.below hBa hs1
  obtain ⟨r0, r1, r2, r3, r4, r5, r6⟩ := hCa.masks
  obtain ⟨s0, s1, s2, s3, s4, s5, s6⟩ := hF2.masks
  have HBa := hid hBa
  have HCa := hid hCa
  obtain ⟨W2, hW2⟩ : ∃ W2, putCl (w1.alloc (.cells zL.toArray 40)) w1.heap.size (clList F) = W2 := ⟨_, rfl⟩
  have HW2 := hid hW2
  rw [hW2] at HBa HCa
  have HB2 : Hid (Below w.heap.size w W2) := HB1.out.trans (HBa.out.mono (by omega))
  have hs2 : w.heap.size < W2.heap.size := by have := HBa.out.size; omega
  have hm := hc.m
  have cW : Hid (Calls Tryz.prog 29 #[.slice (some ⟨W2.heap.size, 0, none⟩) 7 7] (W2.alloc (.cells #[.int .u64 (c.m 0 : Nat), .int .u64 (F.m 0 : Nat), .int .u64 (c.m 1 : Nat), .int .u64 (F.m 1 : Nat), .int .u64 (c.m 2 : Nat), .int .u64 (F.m 2 : Nat), .int .u64 (c.m 3 : Nat), .int .u64 (F.m 3 : Nat),
      .int .u64 (c.m 4 : Nat), .int .u64 (F.m 4 : Nat), .int .u64 (c.m 5 : Nat), .int .u64 (F.m 5 : Nat), .int .u64 (c.m 6 : Nat), .int .u64 (F.m 6 : Nat)] 58)) fun e w' => e = .returned (.bool (mask7B c.m)) ∧ Below (W2.heap.size + 1) (W2.alloc (.cells #[.int .u64 (c.m 0 : Nat), .int .u64 (F.m 0 : Nat), .int .u64 (c.m 1 : Nat), .int .u64 (F.m 1 : Nat), .int .u64 (c.m 2 : Nat), .int .u64 (F.m 2 : Nat), .int .u64 (c.m 3 : Nat), .int .u64 (F.m 3 : Nat),
      .int .u64 (c.m 4 : Nat), .int .u64 (F.m 4 : Nat), .int .u64 (c.m 5 : Nat), .int .u64 (F.m 5 : Nat), .int .u64 (c.m 6 : Nat), .int .u64 (F.m 6 : Nat)] 58)) w') := by
    have h := Within2_any (some ⟨W2.heap.size, 0, none⟩) 7 [(c.m 0, F.m 0), (c.m 1, F.m 1), (c.m 2, F.m 2), (c.m 3, F.m 3), (c.m 4, F.m 4), (c.m 5, F.m 5), (c.m 6, F.m 6)]
      (W2.alloc (.cells #[.int .u64 (c.m 0 : Nat), .int .u64 (F.m 0 : Nat), .int .u64 (c.m 1 : Nat), .int .u64 (F.m 1 : Nat), .int .u64 (c.m 2 : Nat), .int .u64 (F.m 2 : Nat), .int .u64 (c.m 3 : Nat), .int .u64 (F.m 3 : Nat),
        .int .u64 (c.m 4 : Nat), .int .u64 (F.m 4 : Nat), .int .u64 (c.m 5 : Nat), .int .u64 (F.m 5 : Nat), .int .u64 (c.m 6 : Nat), .int .u64 (F.m 6 : Nat)] 58)) (by simp) (sl_range (range_new W2 _ _) (by simp)) (by
        have hf : ∀ i, F.m i < 18446744073709551616 := fun i => by rw [HF.out i]; unfold fullM; repeat (first | exact mk_lt _ | split)
        intro p hp
        simp only [List.mem_cons, List.not_mem_nil, or_false] at hp
        rcases hp with rfl | rfl | rfl | rfl | rfl | rfl | rfl <;> exact ⟨hm _ (by omega), hf _⟩)
    rw [HF.out 0, HF.out 1, HF.out 2, HF.out 3, HF.out 4, HF.out 5, HF.out 6, within_mask, World.size_alloc] at h
    rw [HF.out 0, HF.out 1, HF.out 2, HF.out 3, HF.out 4, HF.out 5, HF.out 6]
    exact h
  rw [Hb1.out] at cW
  clear hF2 hBa hCa hC1 hW2 hm
  go_wp2_with fail
  rw [HW2.out]
  clear r0 r1 r2 r3 r4 r5 r6 s0 s1 s2 s3 s4 s5 s6 hth
  refine cW.out.mono ?_
  rintro e w3 ⟨rfl, hB3⟩
  have HB23 : Hid (Below W2.heap.size W2 w3) := (below_new (Below.refl _ _) (Nat.le_refl _)).trans (hB3.mono (by omega))
  have HB3 : Hid (Below w.heap.size w w3) := HB2.out.trans (HB23.out.mono (by omega))
  have HC3 := hid (HCa.out.below HB23.out hs2)
  have hs3 : w.heap.size < w3.heap.size := by have := HB23.out.size; omega
  obtain ⟨o0, o1, o2, o3, o4, o5, o6, o7, o8, o9⟩ := HC3.out.ord
  clear hB3 cW
  cases b1
  · go_wp2
    go_ret
    exact ⟨rfl, HB3.out⟩
  go_wp2_with fail
  refine (cO.out _).mono ?_
  rintro e w4 ⟨rfl, hB4⟩
  have HB4 : Hid (Below w.heap.size w w4) := HB3.out.trans (hB4.mono (by omega))
  have HC4 := hid (HC3.out.below hB4 hs3)
  have hs4 : w.heap.size < w4.heap.size := by have := hB4.size; omega
  obtain ⟨y0, y1, y2, y3, y4, y5, y6⟩ := HC4.out.years
  clear hB4 o0 o1 o2 o3 o4 o5 o6 o7 o8 o9
  cases b2
  · go_wp2
    go_ret
    exact ⟨rfl, HB4.out⟩
  go_wp2_with fail
  refine (cY.out _).mono ?_
  rintro e w5 ⟨rfl, hB5⟩
  have HB5 : Hid (Below w.heap.size w w5) := HB4.out.trans (hB5.mono (by omega))
  have HC5 := hid (HC4.out.below hB5 hs4)
  have hs5 : w.heap.size < w5.heap.size := by have := hB5.size; omega
  obtain ⟨t0, t1, t2, t3, t4⟩ := HC5.out.tail
  clear hB5 y0 y1 y2 y3 y4 y5 y6
  cases b3
  · go_wp2
    go_ret
    exact ⟨rfl, HB5.out⟩
  go_wp2_with fail
  refine (cN.out _).mono ?_
  rintro e w6 ⟨⟨s, rfl, hsn⟩, hB6⟩
  have HB6 : Hid (Below w.heap.size w w6) := HB5.out.trans (hB6.mono (by omega))
  have HC6 := hid (HC5.out.below hB6 hs5)
  obtain ⟨u0, u1, u2, u3, u4⟩ := HC6.out.tail
  clear hB6 t0 t1 t2 t3 t4
  cases b4
  · go_wp2
    go_ret
    exact ⟨rfl, HB6.out⟩
  by_cases h1 : 1 ≤ c.step
  · obtain rfl : true = b5 := by rw [← Hb5.out, decide_eq_true h1]
    clear Hb5
    go_wp2_with fail
    refine (cM.out _).mono ?_
    rintro e w' ⟨rfl, rfl⟩
    go_wp2
    go_ret
    exact ⟨rfl, HB6.out⟩
  · obtain rfl : false = b5 := by rw [← Hb5.out, decide_eq_false h1]
    clear Hb5
    go_wp2
    go_ret
    exact ⟨rfl, HB6.out⟩
end Go.Proofs.YtgiecadlliblpaaGreat

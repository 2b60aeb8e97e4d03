/-
  clause.Full, feriaref13.Full and span.Whole.
  clause.May and feriaref13.May: whether a clause may be.
  span.Held, span.In, clause.Span and feriaref09.Held.
  The least number of a mask above another one is the first such one of its list.
-/
import Derived.Test.YtbfjceegfpddkaaGreatDoorQfe223e
import Derived.Test.YtbfjceegfpddkaaGreatDoorQ0fb7ee
import Derived.Test.YtbfjceegfpddkaaGreatDoorQb1c1ef
namespace Go.Proofs.YtbfjceegfpddkaaGreatDoor
open Go.RowKit
set_option linter.unusedVariables false

theorem Whole_any (w : World) : Calls Tryz.prog 124 #[] w fun e w' => e = .returned (.agg #[.int .i64 0, .int .i64 12622780799]) ∧ Below w.heap.size w w' := by
  go_enter Tryz.func124, Tryz.ntmps124
  go_wp2
  refine bodyPost_ret (results_cell_mid rfl _ _ w.heap.size 0 _ _ rfl (range_new w _ _) Tryz.underlying76 rfl (by kernel_rfl)) rfl ⟨rfl, below_new (Below.refl _ _) (Nat.le_refl _)⟩
def fullM (i : Nat) : Nat := if i < 2 then spanM 0 59 1 else if i = 2 then spanM 0 23 1 else if i = 3 then spanM 1 12 1 else if i = 6 then spanM 1 7 1 else spanM 1 31 1
def fullCl : Cl := { m := fullM, or := false, oin := 0, oback := false, od := fun _ => 0, ys := fullW, unit := 0, step := 1, anchor := 0, fr := 0, un := 12622780799 }
theorem infoCl : (Tryz.prog.info? 28).map (·.size) = some 30 := by kernel_rfl
theorem store_cl (W : World) (b : Nat) (cs : List Value) (hl : cs.length = 30) (h1 : cs.all (·.oneCell') = true) (ht : W.there b 0 30) :
    (Instr.storeAt 28 (.pointer (some ⟨b, 0, none⟩)) (.agg cs.toArray)).run Tryz.prog W = .ok () (W.setCells b 0 cs) := by
  have := run_storeAt_mid (P := Tryz.prog) W b 0 28 cs.toArray (by rw [List.size_toArray, hl]; exact ht) (by rw [List.size_toArray, hl]; exact infoCl) (by simpa using h1)
  exact this
/-- a clause's cells laid into a block -/
def putCl (W : World) (b : Nat) (cs : List Value) : World := W.setCells b 0 cs
/-- the store of a clause, kept whole in a walk -/
def storeClS (v u : Value) : Sem Unit := Instr.storeAt 28 v u
theorem storeAt_cl (v u : Value) : Instr.storeAt 28 v u = storeClS v u := rfl
theorem run_storeClS (W : World) (b : Nat) (x0 x1 x2 x3 x4 x5 x6 oi d0 d1 d2 d3 d4 d5 d6 d7 y0 y1 y2 y3 y4 y5 y6 u st an fr un : Int) (o ob : Bool) (ht : W.there b 0 30) :
    (storeClS (.pointer (some ⟨b, 0, none⟩)) (.agg #[.int .u64 x0, .int .u64 x1, .int .u64 x2, .int .u64 x3, .int .u64 x4, .int .u64 x5, .int .u64 x6, .bool o, .int .i64 oi, .bool ob, .int .u64 d0, .int .u64 d1, .int .u64 d2, .int .u64 d3, .int .u64 d4, .int .u64 d5, .int .u64 d6, .int .u64 d7, .int .u64 y0, .int .u64 y1, .int .u64 y2, .int .u64 y3, .int .u64 y4, .int .u64 y5, .int .u64 y6, .int .i64 u, .int .i64 st, .int .i64 an, .int .i64 fr, .int .i64 un])).run Tryz.prog W = .ok () (putCl W b [.int .u64 x0, .int .u64 x1, .int .u64 x2, .int .u64 x3, .int .u64 x4, .int .u64 x5, .int .u64 x6, .bool o, .int .i64 oi, .bool ob, .int .u64 d0, .int .u64 d1, .int .u64 d2, .int .u64 d3, .int .u64 d4, .int .u64 d5, .int .u64 d6, .int .u64 d7, .int .u64 y0, .int .u64 y1, .int .u64 y2, .int .u64 y3, .int .u64 y4, .int .u64 y5, .int .u64 y6, .int .i64 u, .int .i64 st, .int .i64 an, .int .i64 fr, .int .i64 un]) :=
  store_cl W b [.int .u64 x0, .int .u64 x1, .int .u64 x2, .int .u64 x3, .int .u64 x4, .int .u64 x5, .int .u64 x6, .bool o, .int .i64 oi, .bool ob, .int .u64 d0, .int .u64 d1, .int .u64 d2, .int .u64 d3, .int .u64 d4, .int .u64 d5, .int .u64 d6, .int .u64 d7, .int .u64 y0, .int .u64 y1, .int .u64 y2, .int .u64 y3, .int .u64 y4, .int .u64 y5, .int .u64 y6, .int .i64 u, .int .i64 st, .int .i64 an, .int .i64 fr, .int .i64 un] rfl rfl ht
attribute [local go_sem ↓] storeAt_cl
attribute [local go_sem] run_storeClS
abbrev FuS (w : World) (b3 : Nat) (W : World) : Prop :=
  W.there w.heap.size 0 30 ∧ W.cell? ⟨b3, 0, none⟩ = some (.int .i64 0) ∧ W.cell? ⟨b3, 1, none⟩ = some (.int .i64 12622780799) ∧ Below w.heap.size w W ∧ (w.heap.size < W.heap.size ∧ b3 < W.heap.size)
theorem FuS.keep {w W W' : World} {b3 : Nat} (h : FuS w b3 W) (hb : Below W.heap.size W W') : FuS w b3 W' := by
  obtain ⟨h1, h2, h3, h4, h5, h6⟩ := h
  exact ⟨there_below h1 hb h5, (hb.cell (p := ⟨b3, 0, none⟩) h6).trans h2, (hb.cell (p := ⟨b3, 1, none⟩) h6).trans h3, h4.trans (hb.mono (by omega)), Nat.lt_of_lt_of_le h5 hb.size, Nat.lt_of_lt_of_le h6 hb.size⟩
theorem FuS.put {w W : World} {b3 : Nat} (h : FuS w b3 W) (hne : b3 ≠ w.heap.size) (cs : List Value) : FuS w b3 (putCl W w.heap.size cs) := by
  obtain ⟨h1, h2, h3, h4, h5, h6⟩ := h
  have hb := below_setCells (Nat.le_refl w.heap.size) cs 0 W h4
  have hsz : W.heap.size ≤ (W.setCells w.heap.size 0 cs).heap.size := (World.keptBut_setCells w.heap.size (may := fun _ => True) cs 0 W (fun _ _ => trivial)).size
  exact ⟨World.there_setCells h1 _ _ _, by rw [putCl, World.cell?_setCells_out _ _ _ _ _ (fun e => absurd e hne)]; exact h2, by rw [putCl, World.cell?_setCells_out _ _ _ _ _ (fun e => absurd e hne)]; exact h3, hb, Nat.lt_of_lt_of_le h5 hsz, Nat.lt_of_lt_of_le h6 hsz⟩
theorem putCl_range {W : World} {b : Nat} (cs : List Value) (hl : cs.length = 30) (h : W.there b 0 30) : (putCl W b cs).rangeAt b 0 cs := World.rangeAt_setCells_same _ _ _ _ (by rw [hl]; exact h)
theorem putCl_below {B : Nat} {a W : World} {b : Nat} (h : Below B a W) (hb : B ≤ b) (cs : List Value) : Below B a (putCl W b cs) := below_setCells hb cs 0 W h
set_option maxRecDepth 100000 in
set_option maxHeartbeats 1600000 in
theorem Full_any (w : World) : Calls Tryz.prog 93 #[] w fun e w' => e = .returned (clv fullCl) ∧ Below w.heap.size w w' := by
  have c0 := hid (fun W => Whole_any W)
  have c1 : Hid (∀ W, Calls Tryz.prog 132 #[.int .i64 0, .int .i64 59, .int .i64 1] W fun e w' => e = .returned (.int .u64 (fullM 0 : Nat)) ∧ W = w') := fun W => Span_any 0 59 1 W (by omega) (by omega)
  have c2 : Hid (∀ W, Calls Tryz.prog 132 #[.int .i64 1, .int .i64 31, .int .i64 1] W fun e w' => e = .returned (.int .u64 (fullM 4 : Nat)) ∧ W = w') := fun W => Span_any 1 31 1 W (by omega) (by omega)
  have c3 : Hid (∀ W, Calls Tryz.prog 132 #[.int .i64 0, .int .i64 23, .int .i64 1] W fun e w' => e = .returned (.int .u64 (fullM 2 : Nat)) ∧ W = w') := fun W => Span_any 0 23 1 W (by omega) (by omega)
  have c4 : Hid (∀ W, Calls Tryz.prog 132 #[.int .i64 1, .int .i64 12, .int .i64 1] W fun e w' => e = .returned (.int .u64 (fullM 3 : Nat)) ∧ W = w') := fun W => Span_any 1 12 1 W (by omega) (by omega)
  have c5 : Hid (∀ W, Calls Tryz.prog 132 #[.int .i64 1, .int .i64 7, .int .i64 1] W fun e w' => e = .returned (.int .u64 (fullM 6 : Nat)) ∧ W = w') := fun W => Span_any 1 7 1 W (by omega) (by omega)
  have c6 := hid (fun W => WFull_any W)
  go_enter Tryz.func93, Tryz.ntmps93
  go_wp2_with fail
  refine (c1.out _).mono ?_
  rintro e w' ⟨rfl, rfl⟩
  go_wp2_with fail
  refine (c2.out _).mono ?_
  rintro e w' ⟨rfl, rfl⟩
  go_wp2_with fail
  refine (c0.out _).mono ?_
  rintro e w1 ⟨rfl, hB1⟩
  have hth : ((w.alloc (.cells ((List.replicate 7 (Value.int .u64 0)) ++ [Value.bool false, .int .i64 0, .bool false] ++ (List.replicate 15 (Value.int .u64 0)) ++ (List.replicate 5 (Value.int .i64 0))).toArray 28)).there w.heap.size 0 30) := there_new w _ _
  have hth1 := there_below hth hB1 (by simp)
  have HB1 : Hid (Below w.heap.size w w1) := (below_new (Below.refl _ _) (Nat.le_refl _)).trans (hB1.mono (by simp))
  have hs1 : w.heap.size < w1.heap.size := by have := hB1.size; simp at this; omega
  have hn := below_new (o := .cells #[.int .i64 0, .int .i64 12622780799] 76) (Below.refl w1.heap.size w1) (Nat.le_refl _)
  have HS0 : Hid (FuS w w1.heap.size (w1.alloc (.cells #[.int .i64 0, .int .i64 12622780799] 76)).drew) :=
    ⟨there_below hth1 hn.drew hs1, by show (w1.alloc _).cell? _ = _; simp [go_sem], by show (w1.alloc _).cell? _ = _; simp [go_sem], HB1.out.trans (hn.drew.mono (by omega)), by show _ < (w1.alloc _).heap.size; simp; omega, by show _ < (w1.alloc _).heap.size; simp⟩
  have d3 := hid (fun W (h : FuS w w1.heap.size W) => keep_of' (same_below (c3.out W)) (fun _ => h.keep))
  have d4 := hid (fun W (h : FuS w w1.heap.size W) => keep_of' (same_below (c4.out W)) (fun _ => h.keep))
  have d5 := hid (fun W (h : FuS w w1.heap.size W) => keep_of' (same_below (c5.out W)) (fun _ => h.keep))
  have d6 := hid (fun W (h : FuS w w1.heap.size W) => keep_of' (c6.out W) (fun _ => h.keep))
  have hne3 : w1.heap.size ≠ w.heap.size := by omega
  clear hth hth1 hB1 hn
  go_wp2_with fail
  go_region_held3 (fun w' => FuS w w1.heap.size w') (first | with_reducible exact HS0.out | with_reducible assumption | (refine FuS.put (by assumption) hne3 _))
    (first
      | (go_at_call 132; (first | with_reducible refine (d3.out _ (by assumption)).mono ?_ | with_reducible refine (d4.out _ (by assumption)).mono ?_ | with_reducible refine (d5.out _ (by assumption)).mono ?_); rintro e w' ⟨rfl, hS⟩)
      | (go_at_call 133; refine (d6.out _ (by assumption)).mono ?_; rintro e w' ⟨rfl, hS⟩))
  go_wp2
  refine bodyPost_ret (results_cell_mid rfl _ _ w.heap.size 0 _ _ rfl (putCl_range _ rfl hS.1) Tryz.underlying28 rfl infoCl) rfl ⟨rfl, putCl_below hS.2.2.2.1 (Nat.le_refl _) _⟩
end Go.Proofs.YtbfjceegfpddkaaGreatDoor
namespace Go.Proofs.YtbfjceegfpddkaaGreatDoor
open Go.RowKit
set_option linter.unusedVariables false

def mask7B (m : Nat → Nat) : Bool := bitsB (m 0) 0 59 && (bitsB (m 1) 0 59 && (bitsB (m 2) 0 23 && (bitsB (m 3) 1 12 && (bitsB (m 4) 1 31 && (bitsB (m 5) 1 31 && bitsB (m 6) 1 7)))))
def mayC (c : Cl) : Bool := mask7B c.m && (ordB c.oin c.oback c.od && (eqW (inW c.ys) c.ys && (unB c.unit && (decide (1 ≤ c.step) && winB c.anchor))))
theorem within_mask (m : Nat → Nat) : withinB [(m 0, fullM 0), (m 1, fullM 1), (m 2, fullM 2), (m 3, fullM 3), (m 4, fullM 4), (m 5, fullM 5), (m 6, fullM 6)] = mask7B m := by
  have e : ∀ x lo hi, (lessM x (spanM lo hi 1) == 0) = bitsB x lo hi := fun x lo hi => by
    rw [Bool.eq_iff_iff, beq_iff_eq, less_span]
  have f0 : fullM 0 = spanM 0 59 1 := rfl
  have f1 : fullM 1 = spanM 0 59 1 := rfl
  have f2 : fullM 2 = spanM 0 23 1 := rfl
  have f3 : fullM 3 = spanM 1 12 1 := rfl
  have f4 : fullM 4 = spanM 1 31 1 := rfl
  have f5 : fullM 5 = spanM 1 31 1 := rfl
  have f6 : fullM 6 = spanM 1 7 1 := rfl
  simp only [withinB, List.all_cons, List.all_nil, Bool.and_true, mask7B, f0, f1, f2, f3, f4, f5, f6, e]

abbrev nameL : List Value := [.string { data := #[83, 69, 67, 79, 78, 68, 76, 89] }, .string { data := #[77, 73, 78, 85, 84, 69, 76, 89] }, .string { data := #[72, 79, 85, 82, 76, 89] }, .string { data := #[68, 65, 73, 76, 89] }, .string { data := #[87, 69, 69, 75, 76, 89] }, .string { data := #[77, 79, 78, 84, 72, 76, 89] }, .string { data := #[89, 69, 65, 82, 76, 89] }]
theorem Names_any (w : World) : Calls Tryz.prog 140 #[] w fun e w' => e = .returned (.agg nameL.toArray) ∧ Below w.heap.size w w' := by
  go_enter Tryz.func140, Tryz.ntmps140
  go_wp2
  refine bodyPost_ret (results_cell_mid rfl _ _ w.heap.size 0 _ _ rfl (range_new w _ _) Tryz.underlying184 rfl (by kernel_rfl)) rfl ⟨rfl, below_new (Below.refl _ _) (Nat.le_refl _)⟩
theorem infoStr : (Tryz.prog.info? 9).map (fun i => (i.zero, i.size, i.bytes)) = some (some (.string { data := #[] }), 1, 16) := by kernel_rfl
theorem run_index_names (V : Value) (hV : V = .agg nameL.toArray) (W : World) : (Instr.index 184 V (.int .i64 0)).run Tryz.prog W = .ok (.string { data := #[83, 69, 67, 79, 78, 68, 76, 89] }) W ∧ (Instr.index 184 V (.int .i64 1)).run Tryz.prog W = .ok (.string { data := #[77, 73, 78, 85, 84, 69, 76, 89] }) W ∧ (Instr.index 184 V (.int .i64 2)).run Tryz.prog W = .ok (.string { data := #[72, 79, 85, 82, 76, 89] }) W ∧ (Instr.index 184 V (.int .i64 3)).run Tryz.prog W = .ok (.string { data := #[68, 65, 73, 76, 89] }) W ∧ (Instr.index 184 V (.int .i64 4)).run Tryz.prog W = .ok (.string { data := #[87, 69, 69, 75, 76, 89] }) W ∧ (Instr.index 184 V (.int .i64 5)).run Tryz.prog W = .ok (.string { data := #[77, 79, 78, 84, 72, 76, 89] }) W ∧ (Instr.index 184 V (.int .i64 6)).run Tryz.prog W = .ok (.string { data := #[89, 69, 65, 82, 76, 89] }) W := by
  obtain ⟨i0, hi0, hz0, hz1, hz2⟩ := info_parts infoStr
  rw [hV]
  refine ⟨?_, ?_, ?_, ?_, ?_, ?_, ?_⟩ <;> simp [Instr.index, go_sem, part, sizeOf, typeInfo, hi0, hz1]
set_option maxRecDepth 100000 in
theorem Name_any (u : Int) (w : World) : Calls Tryz.prog 101 #[.int .i64 u] w fun e w' => (∃ s : ByteArray, e = .returned (.string s) ∧ (s.toList == []) = !unB u) ∧ Below w.heap.size w w' := by
  obtain ⟨V, hV⟩ : ∃ V : Value, V = .agg nameL.toArray := ⟨_, rfl⟩
  have c1 : Hid (∀ W, Calls Tryz.prog 140 #[] W fun e w' => e = .returned V ∧ Below W.heap.size W w') := fun W => by rw [hV]; exact Names_any W
  have hix := hid (fun W => run_index_names V hV W)
  clear hV
  rcases unB_cases u with ⟨e, h0, h1⟩ | ⟨e, h⟩
  · rw [e]
    have hcase : u = 0 ∨ u = 1 ∨ u = 2 ∨ u = 3 ∨ u = 4 ∨ u = 5 ∨ u = 6 := by omega
    clear e h0 h1
    rcases hcase with rfl | rfl | rfl | rfl | rfl | rfl | rfl
    all_goals
      go_enter Tryz.func101, Tryz.ntmps101
      go_wp2_with fail
      refine (c1.out _).mono ?_
      rintro e w1 ⟨rfl, hB1⟩
      have HB1 := hid hB1
      obtain ⟨i0, i1, i2, i3, i4, i5, i6⟩ := hix.out w1
      clear hB1
      go_wp2
      go_ret
      exact ⟨⟨_, rfl, by kernel_rfl⟩, HB1.out⟩
  · rw [e]
    clear e
    rcases h with h | h
    · go_enter Tryz.func101, Tryz.ntmps101
      go_wp2
      go_ret
      exact ⟨⟨_, rfl, by kernel_rfl⟩, Below.refl _ _⟩
    · have h0 : ¬ u < 0 := by omega
      have h7 : 7 ≤ u := by omega
      go_enter Tryz.func101, Tryz.ntmps101
      go_wp2
      go_ret
      exact ⟨⟨_, rfl, by kernel_rfl⟩, Below.refl _ _⟩

/-- a clause, in a block -/
def ClB (W : World) (b : Nat) (c : Cl) : Prop := W.rangeAt b 0 (clList c)
theorem ClB.below {W W' : World} {b B : Nat} {c : Cl} (h : ClB W b c) (hb : Below B W W') (hB : b < B) : ClB W' b c := fun j v hv => (hb.cell (p := ⟨b, 0 + j, none⟩) hB).trans (h j v hv)
theorem clB_new (w : World) (c : Cl) (t : TypeId) : ClB (w.alloc (.cells (clList c).toArray t)) w.heap.size c := range_new w _ _
theorem ClB.at {W : World} {b : Nat} {c : Cl} (h : ClB W b c) (j : Nat) {v : Value} (hv : (clList c)[j]? = some v) : W.cell? ⟨b, j, none⟩ = some v := by
  have := h j v hv
  rwa [Nat.zero_add] at this
theorem ClB.masks {W : World} {b : Nat} {c : Cl} (h : ClB W b c) : W.cell? ⟨b, 0, none⟩ = some (.int .u64 (c.m 0 : Nat)) ∧ W.cell? ⟨b, 1, none⟩ = some (.int .u64 (c.m 1 : Nat)) ∧ W.cell? ⟨b, 2, none⟩ = some (.int .u64 (c.m 2 : Nat)) ∧
    W.cell? ⟨b, 3, none⟩ = some (.int .u64 (c.m 3 : Nat)) ∧ W.cell? ⟨b, 4, none⟩ = some (.int .u64 (c.m 4 : Nat)) ∧ W.cell? ⟨b, 5, none⟩ = some (.int .u64 (c.m 5 : Nat)) ∧ W.cell? ⟨b, 6, none⟩ = some (.int .u64 (c.m 6 : Nat)) :=
  ⟨h.at 0 rfl, h.at 1 rfl, h.at 2 rfl, h.at 3 rfl, h.at 4 rfl, h.at 5 rfl, h.at 6 rfl⟩
theorem ClB.ord {W : World} {b : Nat} {c : Cl} (h : ClB W b c) : W.cell? ⟨b, 8, none⟩ = some (.int .i64 c.oin) ∧ W.cell? ⟨b, 9, none⟩ = some (.bool c.oback) ∧ W.cell? ⟨b, 10, none⟩ = some (.int .u64 (c.od 0 : Nat)) ∧ W.cell? ⟨b, 11, none⟩ = some (.int .u64 (c.od 1 : Nat)) ∧
    W.cell? ⟨b, 12, none⟩ = some (.int .u64 (c.od 2 : Nat)) ∧ W.cell? ⟨b, 13, none⟩ = some (.int .u64 (c.od 3 : Nat)) ∧ W.cell? ⟨b, 14, none⟩ = some (.int .u64 (c.od 4 : Nat)) ∧ W.cell? ⟨b, 15, none⟩ = some (.int .u64 (c.od 5 : Nat)) ∧
    W.cell? ⟨b, 16, none⟩ = some (.int .u64 (c.od 6 : Nat)) ∧ W.cell? ⟨b, 17, none⟩ = some (.int .u64 (c.od 7 : Nat)) :=
  ⟨h.at 8 rfl, h.at 9 rfl, h.at 10 rfl, h.at 11 rfl, h.at 12 rfl, h.at 13 rfl, h.at 14 rfl, h.at 15 rfl, h.at 16 rfl, h.at 17 rfl⟩
theorem ClB.years {W : World} {b : Nat} {c : Cl} (h : ClB W b c) : W.cell? ⟨b, 18, none⟩ = some (.int .u64 (c.ys 0 : Nat)) ∧ W.cell? ⟨b, 19, none⟩ = some (.int .u64 (c.ys 1 : Nat)) ∧ W.cell? ⟨b, 20, none⟩ = some (.int .u64 (c.ys 2 : Nat)) ∧ W.cell? ⟨b, 21, none⟩ = some (.int .u64 (c.ys 3 : Nat)) ∧
    W.cell? ⟨b, 22, none⟩ = some (.int .u64 (c.ys 4 : Nat)) ∧ W.cell? ⟨b, 23, none⟩ = some (.int .u64 (c.ys 5 : Nat)) ∧ W.cell? ⟨b, 24, none⟩ = some (.int .u64 (c.ys 6 : Nat)) :=
  ⟨h.at 18 rfl, h.at 19 rfl, h.at 20 rfl, h.at 21 rfl, h.at 22 rfl, h.at 23 rfl, h.at 24 rfl⟩
theorem ClB.tail {W : World} {b : Nat} {c : Cl} (h : ClB W b c) : W.cell? ⟨b, 25, none⟩ = some (.int .i64 c.unit) ∧ W.cell? ⟨b, 26, none⟩ = some (.int .i64 c.step) ∧ W.cell? ⟨b, 27, none⟩ = some (.int .i64 c.anchor) ∧ W.cell? ⟨b, 28, none⟩ = some (.int .i64 c.fr) ∧ W.cell? ⟨b, 29, none⟩ = some (.int .i64 c.un) :=
  ⟨h.at 25 rfl, h.at 26 rfl, h.at 27 rfl, h.at 28 rfl, h.at 29 rfl⟩

theorem sl_range {W : World} {b : Nat} {cs : List Value} (h : W.rangeAt b 0 cs) (hb : b < W.heap.size) : Sl W (some ⟨b, 0, none⟩) cs := .inr ⟨b, 0, rfl, hb, fun j hj => h j _ (List.getElem?_eq_getElem hj)⟩
attribute [local go_sem ↓] storeAt_cl
attribute [local go_sem] run_storeClS
/-- the cells of a clause that is zero -/
abbrev zL : List Value := [.int .u64 0, .int .u64 0, .int .u64 0, .int .u64 0, .int .u64 0, .int .u64 0, .int .u64 0, .bool false, .int .i64 0, .bool false, .int .u64 0, .int .u64 0, .int .u64 0, .int .u64 0, .int .u64 0, .int .u64 0, .int .u64 0, .int .u64 0, .int .u64 0, .int .u64 0, .int .u64 0, .int .u64 0, .int .u64 0, .int .u64 0, .int .u64 0, .int .i64 0, .int .i64 0, .int .i64 0, .int .i64 0, .int .i64 0]
set_option maxRecDepth 100000 in
set_option maxHeartbeats 3200000 in
theorem CMayCl_any (c : Cl) (w : World) (hc : c.Ok) : Calls Tryz.prog 50 #[clv c] w fun e w' => e = .returned (.bool (mayC c)) ∧ Below w.heap.size w w' := by
  have c0 := hid (fun W => Full_any W)
  obtain ⟨F, hF⟩ : ∃ F, fullCl = F := ⟨_, rfl⟩
  have HF : Hid (∀ i, F.m i = fullM i) := fun i => by rw [← hF]; rfl
  rw [hF] at c0
  clear hF
  have hC := hid (clB_new w c 28)
  have hB0 : Hid (Below w.heap.size w (w.alloc (.cells (clList c).toArray 28))) := below_new (Below.refl _ _) (Nat.le_refl _)
  have cO := hid (fun W => COrdinal_any c.oin c.oback c.od W hc.oin hc.od)
  have cY := hid (fun W => WMay_any c.ys W hc.ys)
  have cN := hid (fun W => Name_any c.unit W)
  have cM := hid (fun W => MIn_any c.anchor W)
  have hres : Hid (mayC c = (mask7B c.m && (ordB c.oin c.oback c.od && (eqW (inW c.ys) c.ys && (unB c.unit && (decide (1 ≤ c.step) && winB c.anchor)))))) := rfl
  rw [hres.out]
  obtain ⟨b1, hb1⟩ : ∃ b, mask7B c.m = b := ⟨_, rfl⟩
  obtain ⟨b2, hb2⟩ : ∃ b, ordB c.oin c.oback c.od = b := ⟨_, rfl⟩
  obtain ⟨b3, hb3⟩ : ∃ b, eqW (inW c.ys) c.ys = b := ⟨_, rfl⟩
  obtain ⟨b4, hb4⟩ : ∃ b, unB c.unit = b := ⟨_, rfl⟩
  obtain ⟨b6, hb6⟩ : ∃ b, winB c.anchor = b := ⟨_, rfl⟩
  obtain ⟨b5, hb5⟩ : ∃ b, decide (1 ≤ c.step) = b := ⟨_, rfl⟩
  rw [hb1]
  have Hb1 := hid hb1
  rw [hb2] at cO ⊢
  rw [hb3] at cY ⊢
  rw [hb4] at cN ⊢
  rw [hb6] at cM ⊢
  rw [hb5]
  have Hb5 := hid hb5
  clear hb1 hb2 hb3 hb4 hb5 hb6 hres
  go_enter Tryz.func50, Tryz.ntmps50
  go_wp2_with fail
  refine (c0.out _).mono ?_
  rintro e w1 ⟨rfl, hB1⟩
  have hC1 := hC.out.below hB1 (by simp)
  have HB1 : Hid (Below w.heap.size w w1) := hB0.out.trans (hB1.mono (by simp))
  have hs1 : w.heap.size < w1.heap.size := by have := hB1.size; simp at this; omega
  clear hB1
  have hth : (w1.alloc (.cells zL.toArray 28)).there w1.heap.size 0 30 := there_new w1 _ _
  have hF2 : ClB (putCl (w1.alloc (.cells zL.toArray 28)) w1.heap.size (clList F)) w1.heap.size F := putCl_range _ rfl hth
  have hBa : Below w1.heap.size w1 (putCl (w1.alloc (.cells zL.toArray 28)) w1.heap.size (clList F)) := putCl_below (below_new (Below.refl _ _) (Nat.le_refl _)) (Nat.le_refl _) _
  have hCa := hC1.below hBa hs1
  obtain ⟨r0, r1, r2, r3, r4, r5, r6⟩ := hCa.masks
  obtain ⟨s0, s1, s2, s3, s4, s5, s6⟩ := hF2.masks
  have HBa := hid hBa
  have HCa := hid hCa
  obtain ⟨W2, hW2⟩ : ∃ W2, putCl (w1.alloc (.cells zL.toArray 28)) w1.heap.size (clList F) = W2 := ⟨_, rfl⟩
  have HW2 := hid hW2
  rw [hW2] at HBa HCa
  have HB2 : Hid (Below w.heap.size w W2) := HB1.out.trans (HBa.out.mono (by omega))
  have hs2 : w.heap.size < W2.heap.size := by have := HBa.out.size; omega
  have hm := hc.m
  have cW : Hid (Calls Tryz.prog 98 #[.slice (some ⟨W2.heap.size, 0, none⟩) 7 7] (W2.alloc (.cells #[.int .u64 (c.m 0 : Nat), .int .u64 (F.m 0 : Nat), .int .u64 (c.m 1 : Nat), .int .u64 (F.m 1 : Nat), .int .u64 (c.m 2 : Nat), .int .u64 (F.m 2 : Nat), .int .u64 (c.m 3 : Nat), .int .u64 (F.m 3 : Nat),
      .int .u64 (c.m 4 : Nat), .int .u64 (F.m 4 : Nat), .int .u64 (c.m 5 : Nat), .int .u64 (F.m 5 : Nat), .int .u64 (c.m 6 : Nat), .int .u64 (F.m 6 : Nat)] 152)) fun e w' => e = .returned (.bool (mask7B c.m)) ∧ Below (W2.heap.size + 1) (W2.alloc (.cells #[.int .u64 (c.m 0 : Nat), .int .u64 (F.m 0 : Nat), .int .u64 (c.m 1 : Nat), .int .u64 (F.m 1 : Nat), .int .u64 (c.m 2 : Nat), .int .u64 (F.m 2 : Nat), .int .u64 (c.m 3 : Nat), .int .u64 (F.m 3 : Nat),
      .int .u64 (c.m 4 : Nat), .int .u64 (F.m 4 : Nat), .int .u64 (c.m 5 : Nat), .int .u64 (F.m 5 : Nat), .int .u64 (c.m 6 : Nat), .int .u64 (F.m 6 : Nat)] 152)) w') := by
    have h := Within2_any (some ⟨W2.heap.size, 0, none⟩) 7 [(c.m 0, F.m 0), (c.m 1, F.m 1), (c.m 2, F.m 2), (c.m 3, F.m 3), (c.m 4, F.m 4), (c.m 5, F.m 5), (c.m 6, F.m 6)]
      (W2.alloc (.cells #[.int .u64 (c.m 0 : Nat), .int .u64 (F.m 0 : Nat), .int .u64 (c.m 1 : Nat), .int .u64 (F.m 1 : Nat), .int .u64 (c.m 2 : Nat), .int .u64 (F.m 2 : Nat), .int .u64 (c.m 3 : Nat), .int .u64 (F.m 3 : Nat),
        .int .u64 (c.m 4 : Nat), .int .u64 (F.m 4 : Nat), .int .u64 (c.m 5 : Nat), .int .u64 (F.m 5 : Nat), .int .u64 (c.m 6 : Nat), .int .u64 (F.m 6 : Nat)] 152)) (by simp) (sl_range (range_new W2 _ _) (by simp)) (by
        have hf : ∀ i, F.m i < 18446744073709551616 := fun i => by rw [HF.out i]; unfold fullM; repeat (first | exact mk_lt _ | split)
        intro p hp
        simp only [List.mem_cons, List.not_mem_nil, or_false] at hp
        rcases hp with rfl | rfl | rfl | rfl | rfl | rfl | rfl <;> exact ⟨hm _ (by omega), hf _⟩)
    rw [HF.out 0, HF.out 1, HF.out 2, HF.out 3, HF.out 4, HF.out 5, HF.out 6, within_mask, World.size_alloc] at h
    rw [HF.out 0, HF.out 1, HF.out 2, HF.out 3, HF.out 4, HF.out 5, HF.out 6]
    exact h
  rw [Hb1.out] at cW
  clear hF2 hBa hCa hC1 hW2 hm
  go_wp2_with fail
  rw [HW2.out]
  clear r0 r1 r2 r3 r4 r5 r6 s0 s1 s2 s3 s4 s5 s6 hth
  refine cW.out.mono ?_
  rintro e w3 ⟨rfl, hB3⟩
  have HB23 : Hid (Below W2.heap.size W2 w3) := (below_new (Below.refl _ _) (Nat.le_refl _)).trans (hB3.mono (by omega))
  have HB3 : Hid (Below w.heap.size w w3) := HB2.out.trans (HB23.out.mono (by omega))
  have HC3 := hid (HCa.out.below HB23.out hs2)
  have hs3 : w.heap.size < w3.heap.size := by have := HB23.out.size; omega
  obtain ⟨o0, o1, o2, o3, o4, o5, o6, o7, o8, o9⟩ := HC3.out.ord
  clear hB3 cW
  cases b1
  · go_wp2
    go_ret
    exact ⟨rfl, HB3.out⟩
  go_wp2_with fail
  refine (cO.out _).mono ?_
  rintro e w4 ⟨rfl, hB4⟩
  have HB4 : Hid (Below w.heap.size w w4) := HB3.out.trans (hB4.mono (by omega))
  have HC4 := hid (HC3.out.below hB4 hs3)
  have hs4 : w.heap.size < w4.heap.size := by have := hB4.size; omega
  obtain ⟨y0, y1, y2, y3, y4, y5, y6⟩ := HC4.out.years
  clear hB4 o0 o1 o2 o3 o4 o5 o6 o7 o8 o9
  cases b2
  · go_wp2
    go_ret
    exact ⟨rfl, HB4.out⟩
  go_wp2_with fail
  refine (cY.out _).mono ?_
  rintro e w5 ⟨rfl, hB5⟩
  have HB5 : Hid (Below w.heap.size w w5) := HB4.out.trans (hB5.mono (by omega))
  have HC5 := hid (HC4.out.below hB5 hs4)
  have hs5 : w.heap.size < w5.heap.size := by have := hB5.size; omega
  obtain ⟨t0, t1, t2, t3, t4⟩ := HC5.out.tail
  clear hB5 y0 y1 y2 y3 y4 y5 y6
  cases b3
  · go_wp2
    go_ret
    exact ⟨rfl, HB5.out⟩
  go_wp2_with fail
  refine (cN.out _).mono ?_
  rintro e w6 ⟨⟨s, rfl, hsn⟩, hB6⟩
  have HB6 : Hid (Below w.heap.size w w6) := HB5.out.trans (hB6.mono (by omega))
  have HC6 := hid (HC5.out.below hB6 hs5)
  obtain ⟨u0, u1, u2, u3, u4⟩ := HC6.out.tail
  clear hB6 t0 t1 t2 t3 t4
  cases b4
  · go_wp2
    go_ret
    exact ⟨rfl, HB6.out⟩
  by_cases h1 : 1 ≤ c.step
  · obtain rfl : true = b5 := by rw [← Hb5.out, decide_eq_true h1]
    clear Hb5
    go_wp2_with fail
    refine (cM.out _).mono ?_
    rintro e w' ⟨rfl, rfl⟩
    go_wp2
    go_ret
    exact ⟨rfl, HB6.out⟩
  · obtain rfl : false = b5 := by rw [← Hb5.out, decide_eq_false h1]
    clear Hb5
    go_wp2
    go_ret
    exact ⟨rfl, HB6.out⟩
end Go.Proofs.YtbfjceegfpddkaaGreatDoor
namespace Go.Proofs.YtbfjceegfpddkaaGreatDoor
open Go.RowKit
set_option linter.unusedVariables false

def heldB (f u : Int) : Bool := decide (max f 0 ≤ min u 12622780799)
def heldF (f u : Int) : Int := if heldB f u then max f 0 else 0
def heldU (f u : Int) : Int := if heldB f u then min u 12622780799 else -1
abbrev spv (f u : Int) : Value := .agg #[.int .i64 f, .int .i64 u]
theorem held_cases (f u : Int) : (heldF f u = max f 0 ∧ heldU f u = min u 12622780799 ∧ max f 0 ≤ min u 12622780799) ∨ (heldF f u = 0 ∧ heldU f u = -1 ∧ ¬ max f 0 ≤ min u 12622780799) := by
  unfold heldF heldU heldB
  by_cases h : max f 0 ≤ min u 12622780799
  · left; rw [decide_eq_true h]; exact ⟨rfl, rfl, h⟩
  · right; rw [decide_eq_false h]; exact ⟨rfl, rfl, h⟩
theorem infoSp : (Tryz.prog.info? 76).map (·.size) = some 2 := by kernel_rfl
theorem SNone_any (w : World) : Calls Tryz.prog 123 #[] w fun e w' => e = .returned (spv 0 (-1)) ∧ Below w.heap.size w w' := by
  go_enter Tryz.func123, Tryz.ntmps123
  go_wp2
  refine bodyPost_ret (results_cell_mid rfl _ _ w.heap.size 0 _ _ rfl (range_new w _ _) Tryz.underlying76 rfl infoSp) rfl ⟨rfl, below_new (Below.refl _ _) (Nat.le_refl _)⟩
theorem range_new2 (w : World) (x : Obj) (l : List Value) (t : TypeId) : ((w.alloc x).alloc (.cells l.toArray t)).rangeAt (w.heap.size + 1) 0 l := by
  have h := range_new (w.alloc x) l t
  rwa [World.size_alloc] at h
theorem range_two {W : World} {b : Nat} {x y u0 u1 : Value} (h0 : W.cell? ⟨b, 0, none⟩ = some u0) (h1 : W.cell? ⟨b, 1, none⟩ = some u1) : ((W.setCell ⟨b, 0, none⟩ x).setCell ⟨b, 1, none⟩ y).rangeAt b 0 [x, y] := fun j v hv => by
  have hne : (⟨b, 1, none⟩ : Addr) ≠ ⟨b, 0, none⟩ := by intro e; injection e with _ e _; cases e
  match j with
  | 0 =>
    have e : x = v := by simpa using hv
    rw [← e, World.cell?_setCell_other _ _ _ _ hne]
    exact World.cell?_setCell_same _ _ _ h0
  | 1 =>
    have e : y = v := by simpa using hv
    rw [← e]
    exact World.cell?_setCell_same _ _ _ (by rw [World.cell?_setCell_other _ _ _ _ hne.symm]; exact h1)
  | n + 2 => simp at hv
theorem ret_sp {a b c d : Int} (h : a = c) (k : b = d) : Ending.returned (spv a b) = .returned (spv c d) := by rw [h, k]
set_option maxHeartbeats 1600000 in
theorem SHeld_any (f u : Int) (w : World) : Calls Tryz.prog 73 #[spv f u] w fun e w' => e = .returned (spv (heldF f u) (heldU f u)) ∧ Below w.heap.size w w' := by
  have c0 := hid (fun W => SNone_any W)
  have h1 : f < 0 ∨ f = 0 ∨ 0 < f := by omega
  have h2 : u < 12622780799 ∨ u = 12622780799 ∨ 12622780799 < u := by omega
  rcases held_cases f u with ⟨e1, e2, h3⟩ | ⟨e1, e2, h3⟩
  · rw [e1, e2]
    clear e1 e2
    rcases h1 with h1 | rfl | h1 <;> rcases h2 with h2 | rfl | h2
    all_goals
      go_enter Tryz.func73, Tryz.ntmps73
      go_wp2
      exact bodyPost_ret (results_cell_mid rfl _ _ (w.heap.size + 1) 0 _ _ rfl (range_new2 w _ _ _) Tryz.underlying76 rfl infoSp) rfl ⟨ret_sp (by omega) (by omega), below_new (below_new (Below.refl _ _) (Nat.le_refl _)) (by simp)⟩
  · rw [e1, e2]
    clear e1 e2
    rcases h1 with h1 | rfl | h1 <;> rcases h2 with h2 | rfl | h2
    all_goals try (exfalso; omega)
    all_goals
      first
        | (have h4 : u < 0 := (by omega); clear h3)
        | (have h4 : u < f := (by omega); clear h3)
        | (have h4 : 12622780799 < f := (by omega); clear h3)
      go_enter Tryz.func73, Tryz.ntmps73
      go_wp2_with fail
      refine (c0.out _).mono ?_
      rintro e w1 ⟨rfl, hB1⟩
      have c1 := (hB1.cell (p := ⟨w.heap.size + 1, 0, none⟩) (by simp)).trans (show _ = some (.int .i64 0) by simp [go_sem])
      have c2 := (hB1.cell (p := ⟨w.heap.size + 1, 1, none⟩) (by simp)).trans (show _ = some (.int .i64 0) by simp [go_sem])
      have f1 := (hB1.frozen (p := ⟨w.heap.size + 1, 0, none⟩) (by simp)).trans (show _ = false by simp [go_sem])
      have f2 := (hB1.frozen (p := ⟨w.heap.size + 1, 1, none⟩) (by simp)).trans (show _ = false by simp [go_sem])
      have HB1 : Hid (Below w.heap.size w w1) := (below_new (below_new (Below.refl _ _) (Nat.le_refl _)) (by simp)).trans (hB1.mono (by simp only [World.size_alloc]; omega))
      clear hB1
      go_wp2
      exact bodyPost_ret (results_cell_mid rfl _ _ (w.heap.size + 1) 0 _ _ rfl (range_two c1 c2) Tryz.underlying76 rfl infoSp) rfl ⟨rfl, below_set (below_set HB1.out (by omega)) (by omega)⟩
theorem infoS9 : (Tryz.prog.info? 85).map (·.size) = some 2 := by kernel_rfl
set_option maxHeartbeats 1600000 in
theorem RHeld9_any (f u : Int) (w : World) : Calls Tryz.prog 81 #[spv f u] w fun e w' => e = .returned (spv (heldF f u) (heldU f u)) ∧ Below w.heap.size w w' := by
  have h1 : f < 0 ∨ 0 ≤ f := by omega
  have h2 : u ≤ 12622780799 ∨ 12622780799 < u := by omega
  rcases held_cases f u with ⟨e1, e2, h3⟩ | ⟨e1, e2, h3⟩
  all_goals
    rw [e1, e2]
    clear e1 e2
    rcases h1 with h1 | h1 <;> rcases h2 with h2 | h2
    all_goals try (exfalso; omega)
    all_goals
      first
        | (have h4 : u < 0 := (by omega); clear h3)
        | (have h4 : 12622780799 < f := (by omega); clear h3)
        | (have h4 : u < f := (by omega); clear h3)
        | (have h4 : 0 ≤ u := (by omega); clear h3; have h5 : f < 0 := (by omega))
        | (have h4 : f ≤ u := (by omega); have h5 : f ≤ 12622780799 := (by omega); clear h3)
        | clear h3
      go_enter Tryz.func81, Tryz.ntmps81
      go_wp2
      exact bodyPost_ret (results_cell_mid rfl _ _ (w.heap.size + 1) 0 _ _ rfl (range_new2 w _ _ _) Tryz.underlying85 rfl infoS9) rfl ⟨ret_sp (by omega) (by omega), below_new (below_new (Below.refl _ _) (Nat.le_refl _)) (by simp)⟩
/-- is an instant in a span? -/
def inSp (f u t : Int) : Bool := decide (heldF f u ≤ t) && decide (t ≤ heldU f u)
theorem inSp_win {f u t : Int} (h0 : 0 ≤ t) (h1 : t < 12622780800) : inSp f u t = (decide (f ≤ t) && decide (t ≤ u)) := by
  rw [inSp, Bool.eq_iff_iff]
  simp only [Bool.and_eq_true, decide_eq_true_eq]
  rcases held_cases f u with ⟨e1, e2, h3⟩ | ⟨e1, e2, h3⟩ <;> rw [e1, e2] <;> omega
end Go.Proofs.YtbfjceegfpddkaaGreatDoor
namespace Go.Proofs.YtbfjceegfpddkaaGreatDoor
open Go.RowKit
set_option linter.unusedVariables false

theorem sel_split (p : Nat → Bool) (k : Nat) (hk : p k = true) : ∀ N, k < N → ∃ bs, sel p N = sel p k ++ (k : Int) :: bs
  | 0, h => by omega
  | N + 1, h => by
    by_cases e : k = N
    · subst e; exact ⟨[], sel_yes hk⟩
    · obtain ⟨bs, hb⟩ := sel_split p k hk N (by omega)
      by_cases hp : p N = true
      · exact ⟨bs ++ [(N : Int)], by rw [sel_yes hp, hb]; simp⟩
      · exact ⟨bs, by rw [sel_no (by simpa using hp), hb]⟩
theorem sel_none {p : Nat → Bool} {n : Nat} (h : ∀ i, i < n → p i = false) : sel p n = [] := by
  cases e : sel p n with
  | nil => rfl
  | cons x xs =>
    have hx : x ∈ sel p n := by rw [e]; simp
    obtain ⟨k, hk, hp, _⟩ := sel_mem.mp hx
    rw [h k hk] at hp; cases hp

/-- the first of a list above n, or -1 -/
def wantF (n : Int) : List Int → Int
  | [] => -1
  | x :: xs => if n < x then x else wantF n xs
theorem wantF_none (n : Int) : ∀ l : List Int, (∀ x ∈ l, ¬ n < x) → wantF n l = -1
  | [], _ => rfl
  | x :: xs, h => by rw [wantF, if_neg (h x (by simp)), wantF_none n xs (fun y hy => h y (by simp [hy]))]
theorem wantF_at (n y : Int) (bs : List Int) (hy : n < y) : ∀ l : List Int, (∀ x ∈ l, ¬ n < x) → wantF n (l ++ y :: bs) = y
  | [], _ => by simp [wantF, hy]
  | x :: xs, h => by
    rw [List.cons_append, wantF, if_neg (h x (by simp)), wantF_at n y bs hy xs (fun z hz => h z (by simp [hz]))]

theorem want_no {m : Nat} (n : Int) (hm : m < 18446744073709551616) (h : aboveM m n = 0) : wantF n (sel m.testBit 64) = -1 := by
  refine wantF_none n _ (fun x hx hlt => ?_)
  obtain ⟨k, hk, hp, rfl⟩ := sel_mem.mp hx
  have := aboveM_test n k hm
  rw [h, hp] at this
  simp at this; omega
theorem want_yes {m : Nat} (n : Int) (hm : m < 18446744073709551616) (h : aboveM m n ≠ 0) : wantF n (sel m.testBit 64) = (lsb (aboveM m n) : Int) := by
  obtain ⟨h1, h2, h3⟩ := lsb_spec h (aboveM_lt hm)
  obtain ⟨k, hk⟩ : ∃ k, lsb (aboveM m n) = k := ⟨_, rfl⟩
  rw [hk] at h1 h2 h3 ⊢
  rw [aboveM_test n k hm] at h2
  simp only [Bool.and_eq_true, decide_eq_true_eq] at h2
  obtain ⟨bs, hb⟩ := sel_split m.testBit k h2.2 64 h1
  rw [hb]
  refine wantF_at n k bs h2.1 _ (fun x hx hlt => ?_)
  obtain ⟨j, hj, hp, rfl⟩ := sel_mem.mp hx
  have := h3 j hj
  rw [aboveM_test n j hm, hp] at this
  simp at this; omega
theorem first_no {m : Nat} (h : m = 0) : sel m.testBit 64 = [] := sel_none (fun i _ => by subst h; simp)
theorem first_yes {m : Nat} (hm : m < 18446744073709551616) (h : m ≠ 0) : ∃ bs, sel m.testBit 64 = (lsb m : Int) :: bs := by
  obtain ⟨h1, h2, h3⟩ := lsb_spec h hm
  obtain ⟨bs, hb⟩ := sel_split m.testBit (lsb m) h2 64 h1
  rw [sel_none h3] at hb
  exact ⟨bs, hb⟩
theorem span_one (n t : Int) (k : Nat) : spanB n t 1 k = (decide (n ≤ (k : Int)) && decide ((k : Int) ≤ t)) := by
  rw [spanB, Bool.eq_iff_iff]
  simp only [decide_eq_true_eq, Bool.and_eq_true]
  omega
theorem wantF_step (n : Int) (l : List Int) (k : Nat) (hk : k < l.length) : wantF n (l.drop k) = if n < l[k] then l[k] else wantF n (l.drop (k + 1)) := by
  rw [List.drop_eq_getElem_cons hk, wantF]
end Go.Proofs.YtbfjceegfpddkaaGreatDoor

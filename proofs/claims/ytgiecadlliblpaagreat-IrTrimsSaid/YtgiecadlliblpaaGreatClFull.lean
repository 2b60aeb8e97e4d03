/-
  clause.Full, feriaref13.Full and span.Whole.
-/
import Derived.Test.YtgiecadlliblpaaGreatClMays
import Derived.Test.YtgiecadlliblpaaGreatMaskSpan
namespace Go.Proofs.YtgiecadlliblpaaGreat
open Go.RowKit
set_option linter.unusedVariables false

theorem Whole_any (w : World) : Calls Tryz.prog 56 #[] w fun e w' => e = .returned (.agg #[.int .i64 0, .int .i64 12622780799]) ∧ Below w.heap.size w w' := by
  go_enter Tryz.func56, Tryz.ntmps56
  go_wp2
  refine bodyPost_ret (results_cell_mid rfl _ _ w.heap.size 0 _ _ rfl (range_new w _ _) Tryz.underlying44 rfl (by kernel_rfl)) rfl ⟨rfl, below_new (Below.refl _ _) (Nat.le_refl _)⟩
def fullM (i : Nat) : Nat := if i < 2 then spanM 0 59 1 else if i = 2 then spanM 0 23 1 else if i = 3 then spanM 1 12 1 else if i = 6 then spanM 1 7 1 else spanM 1 31 1
def fullCl : Cl := { m := fullM, or := false, oin := 0, oback := false, od := fun _ => 0, ys := fullW, unit := 0, step := 1, anchor := 0, fr := 0, un := 12622780799 }
theorem infoCl : (Tryz.prog.info? 40).map (·.size) = some 30 := by kernel_rfl
theorem store_cl (W : World) (b : Nat) (cs : List Value) (hl : cs.length = 30) (h1 : cs.all (·.oneCell') = true) (ht : W.there b 0 30) :
    (Instr.storeAt 40 (.pointer (some ⟨b, 0, none⟩)) (.agg cs.toArray)).run Tryz.prog W = .ok () (W.setCells b 0 cs) := by
  have := run_storeAt_mid (P := Tryz.prog) W b 0 40 cs.toArray (by rw [List.size_toArray, hl]; exact ht) (by rw [List.size_toArray, hl]; exact infoCl) (by simpa using h1)
  exact this
/-- a clause's cells laid into a block -/
def putCl (W : World) (b : Nat) (cs : List Value) : World := W.setCells b 0 cs
/-- the store of a clause, kept whole in a walk -/
def storeClS (v u : Value) : Sem Unit := Instr.storeAt 40 v u
theorem storeAt_cl (v u : Value) : Instr.storeAt 40 v u = storeClS v u := rfl
theorem run_storeClS (W : World) (b : Nat) (x0 x1 x2 x3 x4 x5 x6 oi d0 d1 d2 d3 d4 d5 d6 d7 y0 y1 y2 y3 y4 y5 y6 u st an fr un : Int) (o ob : Bool) (ht : W.there b 0 30) :
    (storeClS (.pointer (some ⟨b, 0, none⟩)) (.agg #[.int .u64 x0, .int .u64 x1, .int .u64 x2, .int .u64 x3, .int .u64 x4, .int .u64 x5, .int .u64 x6, .bool o, .int .i64 oi, .bool ob, .int .u64 d0, .int .u64 d1, .int .u64 d2, .int .u64 d3, .int .u64 d4, .int .u64 d5, .int .u64 d6, .int .u64 d7, .int .u64 y0, .int .u64 y1, .int .u64 y2, .int .u64 y3, .int .u64 y4, .int .u64 y5, .int .u64 y6, .int .i64 u, .int .i64 st, .int .i64 an, .int .i64 fr, .int .i64 un])).run Tryz.prog W = .ok () (putCl W b [.int .u64 x0, .int .u64 x1, .int .u64 x2, .int .u64 x3, .int .u64 x4, .int .u64 x5, .int .u64 x6, .bool o, .int .i64 oi, .bool ob, .int .u64 d0, .int .u64 d1, .int .u64 d2, .int .u64 d3, .int .u64 d4, .int .u64 d5, .int .u64 d6, .int .u64 d7, .int .u64 y0, .int .u64 y1, .int .u64 y2, .int .u64 y3, .int .u64 y4, .int .u64 y5, .int .u64 y6, .int .i64 u, .int .i64 st, .int .i64 an, .int .i64 fr, .int .i64 un]) :=
  store_cl W b [.int .u64 x0, .int .u64 x1, .int .u64 x2, .int .u64 x3, .int .u64 x4, .int .u64 x5, .int .u64 x6, .bool o, .int .i64 oi, .bool ob, .int .u64 d0, .int .u64 d1, .int .u64 d2, .int .u64 d3, .int .u64 d4, .int .u64 d5, .int .u64 d6, .int .u64 d7, .int .u64 y0, .int .u64 y1, .int .u64 y2, .int .u64 y3, .int .u64 y4, .int .u64 y5, .int .u64 y6, .int .i64 u, .int .i64 st, .int .i64 an, .int .i64 fr, .int .i64 un] rfl rfl ht
attribute [local go_sem ↓] storeAt_cl
attribute [local go_sem] run_storeClS
abbrev FuS (w : World) (b3 : Nat) (W : World) : Prop :=
  W.there w.heap.size 0 30 ∧ W.cell? ⟨b3, 0, none⟩ = some (.int .i64 0) ∧ W.cell? ⟨b3, 1, none⟩ = some (.int .i64 12622780799) ∧ Below w.heap.size w W ∧ (w.heap.size < W.heap.size ∧ b3 < W.heap.size)
theorem FuS.keep {w W W' : World} {b3 : Nat} (h : FuS w b3 W) (hb : Below W.heap.size W W') : FuS w b3 W' := by
  obtain ⟨h1, h2, h3, h4, h5, h6⟩ := h
  exact ⟨there_below h1 hb h5, (hb.cell (p := ⟨b3, 0, none⟩) h6).trans h2, (hb.cell (p := ⟨b3, 1, none⟩) h6).trans h3, h4.trans (hb.mono (by omega)), Nat.lt_of_lt_of_le h5 hb.size, Nat.lt_of_lt_of_le h6 hb.size⟩
theorem FuS.put {w W : World} {b3 : Nat} (h : FuS w b3 W) (hne : b3 ≠ w.heap.size) (cs : List Value) : FuS w b3 (putCl W w.heap.size cs) := by
  obtain ⟨h1, h2, h3, h4, h5, h6⟩ := h
  have hb := below_setCells (Nat.le_refl w.heap.size) cs 0 W h4
  have hsz : W.heap.size ≤ (W.setCells w.heap.size 0 cs).heap.size := (World.keptBut_setCells w.heap.size (may := fun _ => True) cs 0 W (fun _ _ => trivial)).size
  exact ⟨World.there_setCells h1 _ _ _, by rw [putCl, World.cell?_setCells_out _ _ _ _ _ (fun e => absurd e hne)]; exact h2, by rw [putCl, World.cell?_setCells_out _ _ _ _ _ (fun e => absurd e hne)]; exact h3, hb, Nat.lt_of_lt_of_le h5 hsz, Nat.lt_of_lt_of_le h6 hsz⟩
theorem putCl_range {W : World} {b : Nat} (cs : List Value) (hl : cs.length = 30) (h : W.there b 0 30) : (putCl W b cs).rangeAt b 0 cs := World.rangeAt_setCells_same _ _ _ _ (by rw [hl]; exact h)
theorem putCl_below {B : Nat} {a W : World} {b : Nat} (h : Below B a W) (hb : B ≤ b) (cs : List Value) : Below B a (putCl W b cs) := below_setCells hb cs 0 W h
set_option maxRecDepth 100000 in
set_option maxHeartbeats 1600000 in
theorem Full_any (w : World) : Calls Tryz.prog 28 #[] w fun e w' => e = .returned (clv fullCl) ∧ Below w.heap.size w w' := by
  have c0 := hid (fun W => Whole_any W)
  have c1 : Hid (∀ W, Calls Tryz.prog 55 #[.int .i64 0, .int .i64 59, .int .i64 1] W fun e w' => e = .returned (.int .u64 (fullM 0 : Nat)) ∧ W = w') := fun W => Span_any 0 59 1 W (by omega) (by omega)
  have c2 : Hid (∀ W, Calls Tryz.prog 55 #[.int .i64 1, .int .i64 31, .int .i64 1] W fun e w' => e = .returned (.int .u64 (fullM 4 : Nat)) ∧ W = w') := fun W => Span_any 1 31 1 W (by omega) (by omega)
  have c3 : Hid (∀ W, Calls Tryz.prog 55 #[.int .i64 0, .int .i64 23, .int .i64 1] W fun e w' => e = .returned (.int .u64 (fullM 2 : Nat)) ∧ W = w') := fun W => Span_any 0 23 1 W (by omega) (by omega)
  have c4 : Hid (∀ W, Calls Tryz.prog 55 #[.int .i64 1, .int .i64 12, .int .i64 1] W fun e w' => e = .returned (.int .u64 (fullM 3 : Nat)) ∧ W = w') := fun W => Span_any 1 12 1 W (by omega) (by omega)
  have c5 : Hid (∀ W, Calls Tryz.prog 55 #[.int .i64 1, .int .i64 7, .int .i64 1] W fun e w' => e = .returned (.int .u64 (fullM 6 : Nat)) ∧ W = w') := fun W => Span_any 1 7 1 W (by omega) (by omega)
  have c6 := hid (fun W => WFull_any W)
  go_enter Tryz.func28, Tryz.ntmps28
  go_wp2_with fail
  refine (c1.out _).mono ?_
  rintro e w' ⟨rfl, rfl⟩
  go_wp2_with fail
  refine (c2.out _).mono ?_
  rintro e w' ⟨rfl, rfl⟩
  go_wp2_with fail
  refine (c0.out _).mono ?_
  rintro e w1 ⟨rfl, hB1⟩
  have hth : ((w.alloc (.cells ((List.replicate 7 (Value.int .u64 0)) ++ [Value.bool false, .int .i64 0, .bool false] ++ (List.replicate 15 (Value.int .u64 0)) ++ (List.replicate 5 (Value.int .i64 0))).toArray 40)).there w.heap.size 0 30) := there_new w _ _
  have hth1 := there_below hth hB1 (by simp)
  have HB1 : Hid (Below w.heap.size w w1) := (below_new (Below.refl _ _) (Nat.le_refl _)).trans (hB1.mono (by simp))
  have hs1 : w.heap.size < w1.heap.size := by have := hB1.size; simp at this; omega
  have hn := below_new (o := .cells #[.int .i64 0, .int .i64 12622780799] 44) (Below.refl w1.heap.size w1) (Nat.le_refl _)
  have HS0 : Hid (FuS w w1.heap.size (w1.alloc (.cells #[.int .i64 0, .int .i64 12622780799] 44)).drew) :=
    ⟨there_below hth1 hn.drew hs1, by show (w1.alloc _).cell? _ = _; simp [go_sem], by show (w1.alloc _).cell? _ = _; simp [go_sem], HB1.out.trans (hn.drew.mono (by omega)), by show _ < (w1.alloc _).heap.size; simp; omega, by show _ < (w1.alloc _).heap.size; simp⟩
  have d3 := hid (fun W (h : FuS w w1.heap.size W) => keep_of' (same_below (c3.out W)) (fun _ => h.keep))
  have d4 := hid (fun W (h : FuS w w1.heap.size W) => keep_of' (same_below (c4.out W)) (fun _ => h.keep))
  have d5 := hid (fun W (h : FuS w w1.heap.size W) => keep_of' (same_below (c5.out W)) (fun _ => h.keep))
  have d6 := hid (fun W (h : FuS w w1.heap.size W) => keep_of' (c6.out W) (fun _ => h.keep))
  have hne3 : w1.heap.size ≠ w.heap.size := by omega
  clear hth hth1 hB1 hn
  go_wp2_with fail
  go_region_held3 (fun w' => FuS w w1.heap.size w') (first | with_reducible exact HS0.out | with_reducible assumption | (refine FuS.put (by assumption) hne3 _))
    (first
      | (go_at_call 55; (first | with_reducible refine (d3.out _ (by assumption)).mono ?_ | with_reducible refine (d4.out _ (by assumption)).mono ?_ | with_reducible refine (d5.out _ (by assumption)).mono ?_); rintro e w' ⟨rfl, hS⟩)
      | (go_at_call 57; refine (d6.out _ (by assumption)).mono ?_; rintro e w' ⟨rfl, hS⟩))
  go_wp2
  refine bodyPost_ret (results_cell_mid rfl _ _ w.heap.size 0 _ _ rfl (putCl_range _ rfl hS.1) Tryz.underlying40 rfl infoCl) rfl ⟨rfl, putCl_below hS.2.2.2.1 (Nat.le_refl _) _⟩
end Go.Proofs.YtgiecadlliblpaaGreat

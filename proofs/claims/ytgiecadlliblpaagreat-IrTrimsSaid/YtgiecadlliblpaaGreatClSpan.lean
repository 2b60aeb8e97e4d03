/-
  span.Held, span.In, clause.Span and feriaref09.Held.
-/
import Derived.Test.YtgiecadlliblpaaGreatClMayFn
namespace Go.Proofs.YtgiecadlliblpaaGreat
open Go.RowKit
set_option linter.unusedVariables false

def heldB (f u : Int) : Bool := decide (max f 0 ≤ min u 12622780799)
def heldF (f u : Int) : Int := if heldB f u then max f 0 else 0
def heldU (f u : Int) : Int := if heldB f u then min u 12622780799 else -1
abbrev spv (f u : Int) : Value := .agg #[.int .i64 f, .int .i64 u]
theorem held_cases (f u : Int) : (heldF f u = max f 0 ∧ heldU f u = min u 12622780799 ∧ max f 0 ≤ min u 12622780799) ∨ (heldF f u = 0 ∧ heldU f u = -1 ∧ ¬ max f 0 ≤ min u 12622780799) := by
  unfold heldF heldU heldB
  by_cases h : max f 0 ≤ min u 12622780799
  · left; rw [decide_eq_true h]; exact ⟨rfl, rfl, h⟩
  · right; rw [decide_eq_false h]; exact ⟨rfl, rfl, h⟩
theorem infoSp : (Tryz.prog.info? 44).map (·.size) = some 2 := by kernel_rfl
theorem SNone_any (w : World) : Calls Tryz.prog 60 #[] w fun e w' => e = .returned (spv 0 (-1)) ∧ Below w.heap.size w w' := by
  go_enter Tryz.func60, Tryz.ntmps60
  go_wp2
  refine bodyPost_ret (results_cell_mid rfl _ _ w.heap.size 0 _ _ rfl (range_new w _ _) Tryz.underlying44 rfl infoSp) rfl ⟨rfl, below_new (Below.refl _ _) (Nat.le_refl _)⟩
theorem range_new2 (w : World) (x : Obj) (l : List Value) (t : TypeId) : ((w.alloc x).alloc (.cells l.toArray t)).rangeAt (w.heap.size + 1) 0 l := by
  have h := range_new (w.alloc x) l t
  rwa [World.size_alloc] at h
theorem range_two {W : World} {b : Nat} {x y u0 u1 : Value} (h0 : W.cell? ⟨b, 0, none⟩ = some u0) (h1 : W.cell? ⟨b, 1, none⟩ = some u1) : ((W.setCell ⟨b, 0, none⟩ x).setCell ⟨b, 1, none⟩ y).rangeAt b 0 [x, y] := fun j v hv => by
  have hne : (⟨b, 1, none⟩ : Addr) ≠ ⟨b, 0, none⟩ := by intro e; injection e with _ e _; cases e
  match j with
  | 0 =>
    have e : x = v := by simpa using hv
    rw [← e, World.cell?_setCell_other _ _ _ _ hne]
    exact World.cell?_setCell_same _ _ _ h0
  | 1 =>
    have e : y = v := by simpa using hv
    rw [← e]
    exact World.cell?_setCell_same _ _ _ (by rw [World.cell?_setCell_other _ _ _ _ hne.symm]; exact h1)
  | n + 2 => simp at hv
theorem ret_sp {a b c d : Int} (h : a = c) (k : b = d) : Ending.returned (spv a b) = .returned (spv c d) := by rw [h, k]
set_option maxHeartbeats 1600000 in
theorem SHeld_any (f u : Int) (w : World) : Calls Tryz.prog 34 #[spv f u] w fun e w' => e = .returned (spv (heldF f u) (heldU f u)) ∧ Below w.heap.size w w' := by
  have c0 := hid (fun W => SNone_any W)
  have h1 : f < 0 ∨ f = 0 ∨ 0 < f := by omega
  have h2 : u < 12622780799 ∨ u = 12622780799 ∨ 12622780799 < u := by omega
  rcases held_cases f u with ⟨e1, e2, h3⟩ | ⟨e1, e2, h3⟩
  · rw [e1, e2]
    clear e1 e2
    rcases h1 with h1 | rfl | h1 <;> rcases h2 with h2 | rfl | h2
    all_goals
      go_enter Tryz.func34, Tryz.ntmps34
      go_wp2
      exact bodyPost_ret (results_cell_mid rfl _ _ (w.heap.size + 1) 0 _ _ rfl (range_new2 w _ _ _) Tryz.underlying44 rfl infoSp) rfl ⟨ret_sp (by omega) (by omega), below_new (below_new (Below.refl _ _) (Nat.le_refl _)) (by simp)⟩
  · rw [e1, e2]
    clear e1 e2
    rcases h1 with h1 | rfl | h1 <;> rcases h2 with h2 | rfl | h2
    all_goals try (exfalso; omega)
    all_goals
      first
        | (have h4 : u < 0 := (by omega); clear h3)
        | (have h4 : u < f := (by omega); clear h3)
        | (have h4 : 12622780799 < f := (by omega); clear h3)
      go_enter Tryz.func34, Tryz.ntmps34
      go_wp2_with fail
      refine (c0.out _).mono ?_
      rintro e w1 ⟨rfl, hB1⟩
      have c1 := (hB1.cell (p := ⟨w.heap.size + 1, 0, none⟩) (by simp)).trans (show _ = some (.int .i64 0) by simp [go_sem])
      have c2 := (hB1.cell (p := ⟨w.heap.size + 1, 1, none⟩) (by simp)).trans (show _ = some (.int .i64 0) by simp [go_sem])
      have f1 := (hB1.frozen (p := ⟨w.heap.size + 1, 0, none⟩) (by simp)).trans (show _ = false by simp [go_sem])
      have f2 := (hB1.frozen (p := ⟨w.heap.size + 1, 1, none⟩) (by simp)).trans (show _ = false by simp [go_sem])
      have HB1 : Hid (Below w.heap.size w w1) := (below_new (below_new (Below.refl _ _) (Nat.le_refl _)) (by simp)).trans (hB1.mono (by simp only [World.size_alloc]; omega))
      clear hB1
      go_wp2
      exact bodyPost_ret (results_cell_mid rfl _ _ (w.heap.size + 1) 0 _ _ rfl (range_two c1 c2) Tryz.underlying44 rfl infoSp) rfl ⟨rfl, below_set (below_set HB1.out (by omega)) (by omega)⟩
/-- is an instant in a span? -/
def inSp (f u t : Int) : Bool := decide (heldF f u ≤ t) && decide (t ≤ heldU f u)
theorem inSp_win {f u t : Int} (h0 : 0 ≤ t) (h1 : t < 12622780800) : inSp f u t = (decide (f ≤ t) && decide (t ≤ u)) := by
  rw [inSp, Bool.eq_iff_iff]
  simp only [Bool.and_eq_true, decide_eq_true_eq]
  rcases held_cases f u with ⟨e1, e2, h3⟩ | ⟨e1, e2, h3⟩ <;> rw [e1, e2] <;> omega
set_option maxHeartbeats 1600000 in
theorem SIn_any (f u t : Int) (w : World) : Calls Tryz.prog 16 #[spv f u, .int .i64 t] w fun e w' => e = .returned (.bool (inSp f u t)) ∧ Below w.heap.size w w' := by
  have c0 := hid (fun W => SHeld_any f u W)
  rw [inSp]
  obtain ⟨a, ha⟩ : ∃ a, heldF f u = a := ⟨_, rfl⟩
  obtain ⟨b, hb⟩ : ∃ b, heldU f u = b := ⟨_, rfl⟩
  rw [ha, hb] at c0 ⊢
  clear ha hb
  by_cases h : a ≤ t
  · have hd : decide (a ≤ t) = true := decide_eq_true h
    rw [hd]
    go_enter Tryz.func16, Tryz.ntmps16
    go_wp2_with fail
    refine (c0.out _).mono ?_
    rintro e w1 ⟨rfl, hB1⟩
    have c1 := (hB1.cell (p := ⟨w.heap.size, 0, none⟩) (by simp)).trans (show _ = some (.int .i64 f) by simp [go_sem])
    have c2 := (hB1.cell (p := ⟨w.heap.size, 1, none⟩) (by simp)).trans (show _ = some (.int .i64 u) by simp [go_sem])
    have f1 := (hB1.frozen (p := ⟨w.heap.size, 0, none⟩) (by simp)).trans (show _ = false by simp [go_sem])
    have f2 := (hB1.frozen (p := ⟨w.heap.size, 1, none⟩) (by simp)).trans (show _ = false by simp [go_sem])
    have HB1 : Hid (Below w.heap.size w w1) := (below_new (Below.refl _ _) (Nat.le_refl _)).trans (hB1.mono (by simp))
    clear hB1
    go_wp2
    go_ret
    exact ⟨by simp, below_set (below_set HB1.out (Nat.le_refl _)) (Nat.le_refl _)⟩
  · have hd : decide (a ≤ t) = false := decide_eq_false h
    rw [hd]
    go_enter Tryz.func16, Tryz.ntmps16
    go_wp2_with fail
    refine (c0.out _).mono ?_
    rintro e w1 ⟨rfl, hB1⟩
    have c1 := (hB1.cell (p := ⟨w.heap.size, 0, none⟩) (by simp)).trans (show _ = some (.int .i64 f) by simp [go_sem])
    have c2 := (hB1.cell (p := ⟨w.heap.size, 1, none⟩) (by simp)).trans (show _ = some (.int .i64 u) by simp [go_sem])
    have f1 := (hB1.frozen (p := ⟨w.heap.size, 0, none⟩) (by simp)).trans (show _ = false by simp [go_sem])
    have f2 := (hB1.frozen (p := ⟨w.heap.size, 1, none⟩) (by simp)).trans (show _ = false by simp [go_sem])
    have HB1 : Hid (Below w.heap.size w w1) := (below_new (Below.refl _ _) (Nat.le_refl _)).trans (hB1.mono (by simp))
    clear hB1
    go_wp2
    go_ret
    exact ⟨by simp, below_set (below_set HB1.out (Nat.le_refl _)) (Nat.le_refl _)⟩
end Go.Proofs.YtgiecadlliblpaaGreat

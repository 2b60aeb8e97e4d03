/-
  moment.Stamp.
-/
import Derived.Test.YtndfckpcbiecnaaUnits
import Derived.Test.YtndfckpcbiecnaaCivDate
import Derived.Test.YtndfckpcbiecnaaTod
namespace Go.Proofs.Ytndfckpcbiecnaa
open Go.RowKit
set_option linter.unusedVariables false

abbrev stpL (y mo d h m s : Int) : List Value := [.int .i64 y, .int .i64 mo, .int .i64 d, .int .i64 h, .int .i64 m, .int .i64 s]
abbrev stpv (y mo d h m s : Int) : Value := .agg (stpL y mo d h m s).toArray
theorem infoStp : (Try.prog.info? 123).map (·.size) = some 6 := by kernel_rfl
/-- six cells of a block -/
theorem six_put {W : World} {b : Nat} (h : W.there b 0 6) (v0 v1 v2 v3 v4 v5 : Value) :
    ((((((W.setCell ⟨b, 0, none⟩ v0).setCell ⟨b, 1, none⟩ v1).setCell ⟨b, 2, none⟩ v2).setCell ⟨b, 3, none⟩ v3).setCell ⟨b, 4, none⟩ v4).setCell ⟨b, 5, none⟩ v5).rangeAt b 0 [v0, v1, v2, v3, v4, v5] :=
  World.rangeAt_setCells_same W b 0 [v0, v1, v2, v3, v4, v5] h
abbrev Six (W : World) (b : Nat) (v0 v1 v2 v3 v4 v5 : Value) : Prop :=
  (W.cell? ⟨b, 0, none⟩ = some v0 ∧ W.cell? ⟨b, 1, none⟩ = some v1 ∧ W.cell? ⟨b, 2, none⟩ = some v2 ∧ W.cell? ⟨b, 3, none⟩ = some v3 ∧ W.cell? ⟨b, 4, none⟩ = some v4 ∧ W.cell? ⟨b, 5, none⟩ = some v5) ∧
  (W.frozen? ⟨b, 0, none⟩ = false ∧ W.frozen? ⟨b, 1, none⟩ = false ∧ W.frozen? ⟨b, 2, none⟩ = false ∧ W.frozen? ⟨b, 3, none⟩ = false ∧ W.frozen? ⟨b, 4, none⟩ = false ∧ W.frozen? ⟨b, 5, none⟩ = false)
theorem Six.below {W W' : World} {b B : Nat} {v0 v1 v2 v3 v4 v5 : Value} (h : Six W b v0 v1 v2 v3 v4 v5) (hb : Below B W W') (hB : b < B) : Six W' b v0 v1 v2 v3 v4 v5 := by
  obtain ⟨⟨a0, a1, a2, a3, a4, a5⟩, f0, f1, f2, f3, f4, f5⟩ := h
  exact ⟨⟨(hb.cell (p := ⟨b, 0, none⟩) hB).trans a0, (hb.cell (p := ⟨b, 1, none⟩) hB).trans a1, (hb.cell (p := ⟨b, 2, none⟩) hB).trans a2, (hb.cell (p := ⟨b, 3, none⟩) hB).trans a3, (hb.cell (p := ⟨b, 4, none⟩) hB).trans a4, (hb.cell (p := ⟨b, 5, none⟩) hB).trans a5⟩,
    (hb.frozen (p := ⟨b, 0, none⟩) hB).trans f0, (hb.frozen (p := ⟨b, 1, none⟩) hB).trans f1, (hb.frozen (p := ⟨b, 2, none⟩) hB).trans f2, (hb.frozen (p := ⟨b, 3, none⟩) hB).trans f3, (hb.frozen (p := ⟨b, 4, none⟩) hB).trans f4, (hb.frozen (p := ⟨b, 5, none⟩) hB).trans f5⟩
theorem six_new (w : World) (v0 v1 v2 v3 v4 v5 : Value) (t : TypeId) : Six (w.alloc (.cells #[v0, v1, v2, v3, v4, v5] t)) w.heap.size v0 v1 v2 v3 v4 v5 := by
  refine ⟨⟨?_, ?_, ?_, ?_, ?_, ?_⟩, ?_, ?_, ?_, ?_, ?_, ?_⟩ <;> simp [go_sem]
theorem Six.there {W : World} {b : Nat} {v0 v1 v2 v3 v4 v5 : Value} (h : Six W b v0 v1 v2 v3 v4 v5) : W.there b 0 6 := fun j hj => by
  obtain ⟨⟨a0, a1, a2, a3, a4, a5⟩, f0, f1, f2, f3, f4, f5⟩ := h
  have hj6 : j = 0 ∨ j = 1 ∨ j = 2 ∨ j = 3 ∨ j = 4 ∨ j = 5 := by omega
  rw [Nat.zero_add]
  rcases hj6 with rfl | rfl | rfl | rfl | rfl | rfl
  · exact ⟨by rw [a0]; rfl, f0⟩
  · exact ⟨by rw [a1]; rfl, f1⟩
  · exact ⟨by rw [a2]; rfl, f2⟩
  · exact ⟨by rw [a3]; rfl, f3⟩
  · exact ⟨by rw [a4]; rfl, f4⟩
  · exact ⟨by rw [a5]; rfl, f5⟩
/-- what Stamp answers -/
def stampV (t : Int) : Value := if winB t = true then stpv (fY (t / 86400)) (fMo (t / 86400)) (fD (t / 86400)) (t % 86400 / 3600) (t % 86400 / 60 % 60) (t % 86400 % 60) else stpv 0 0 0 0 0 0
set_option maxRecDepth 100000 in
set_option maxHeartbeats 3200000 in
theorem Stamp_any (t : Int) (w : World) : Calls Try.prog 142 #[.int .i64 t] w fun e w' => e = .returned (.tuple #[stampV t, .bool (winB t)]) ∧ Below w.heap.size w w' := by
  have HX := hid (six_new w (.int .i64 0) (.int .i64 0) (.int .i64 0) (.int .i64 0) (.int .i64 0) (.int .i64 0) 123)
  have HB0 : Hid (Below w.heap.size w (w.alloc (.cells #[.int .i64 0, .int .i64 0, .int .i64 0, .int .i64 0, .int .i64 0, .int .i64 0] 123))) := below_new (Below.refl _ _) (Nat.le_refl _)
  have Hs0 : Hid (w.heap.size < (w.alloc (.cells #[.int .i64 0, .int .i64 0, .int .i64 0, .int .i64 0, .int .i64 0, .int .i64 0] 123)).heap.size) := by show _ < _; simp
  rw [stampV]
  rcases win_cases t with ⟨hw, h0, h1⟩ | ⟨hw, h⟩
  · rw [hw, if_pos rfl]
    have cS := hid (fun W => Split_yes t W h0 h1)
    have cD := hid (fun W => CDate_any (t / 86400) W (by omega) (by omega))
    have cP := hid (fun W => Parts_yes (t % 86400) W (by omega) (by omega))
    obtain ⟨n, hn⟩ : ∃ n, t / 86400 = n := ⟨_, rfl⟩
    obtain ⟨k, hk⟩ : ∃ k, t % 86400 = k := ⟨_, rfl⟩
    rw [hn] at cS cD ⊢
    rw [hk] at cS cP ⊢
    obtain ⟨y, hy⟩ : ∃ y, fY n = y := ⟨_, rfl⟩
    obtain ⟨m, hm⟩ : ∃ y, fMo n = y := ⟨_, rfl⟩
    obtain ⟨d, hd⟩ : ∃ y, fD n = y := ⟨_, rfl⟩
    rw [hy, hm, hd] at cD ⊢
    obtain ⟨p1, h1'⟩ : ∃ p, k / 3600 = p := ⟨_, rfl⟩
    obtain ⟨p2, h2'⟩ : ∃ p, k / 60 % 60 = p := ⟨_, rfl⟩
    obtain ⟨p3, h3'⟩ : ∃ p, k % 60 = p := ⟨_, rfl⟩
    rw [h1', h2', h3'] at cP ⊢
    clear hw h0 h1 hn hk hy hm hd h1' h2' h3'
    go_enter Try.func142, Try.ntmps142
    go_wp2_with fail
    refine (cS.out _).mono ?_
    rintro e w1 ⟨rfl, rfl⟩
    go_wp2_with fail
    refine (cD.out _).mono ?_
    rintro e w1 ⟨rfl, hB1⟩
    have HX1 := hid (HX.out.below hB1 Hs0.out)
    have HB1 := hid (HB0.out.trans (hB1.mono (Nat.le_of_lt Hs0.out)))
    obtain ⟨⟨a0, a1, a2, a3, a4, a5⟩, f0, f1, f2, f3, f4, f5⟩ := HX1.out
    clear hB1
    go_wp2_with fail
    refine (cP.out _).mono ?_
    rintro e w2 ⟨rfl, rfl⟩
    go_wp2
    exact bodyPost_ret (results_cell_mid2 rfl _ _ w.heap.size 0 _ _ rfl (six_put HX1.out.there _ _ _ _ _ _) Try.underlying123 rfl infoStp) rfl ⟨rfl, below_set (below_set (below_set (below_set (below_set (below_set HB1.out (Nat.le_refl _)) (Nat.le_refl _)) (Nat.le_refl _)) (Nat.le_refl _)) (Nat.le_refl _)) (Nat.le_refl _)⟩
  · rw [hw, if_neg (by simp)]
    have cS := hid (fun W => Split_no t W hw)
    clear hw h
    go_enter Try.func142, Try.ntmps142
    go_wp2_with fail
    refine (cS.out _).mono ?_
    rintro e w1 ⟨rfl, rfl⟩
    go_wp2
    exact bodyPost_ret (results_cell_mid2 rfl _ _ w.heap.size 0 _ _ rfl (range_new w _ _) Try.underlying123 rfl infoStp) rfl ⟨rfl, HB0.out⟩
end Go.Proofs.Ytndfckpcbiecnaa

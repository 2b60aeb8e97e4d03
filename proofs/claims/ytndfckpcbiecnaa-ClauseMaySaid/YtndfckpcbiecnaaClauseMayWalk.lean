/-
  ferialaw13.ClauseMay answers true.
-/
import Derived.Test.YtndfckpcbiecnaaClLive
import Derived.Test.YtndfckpcbiecnaaClRMay
namespace Go.Proofs.Ytndfckpcbiecnaa
open Go.RowKit
set_option linter.unusedVariables false

attribute [local go_sem ↓] loadAt_cl
/-- a clause in a block that is kept -/
abbrev KeS (w : World) (b : Nat) (c : Cl) (W : World) : Prop :=
  (loadClS (.pointer (some ⟨b, 0, none⟩))).run Try.prog W = .ok (clv c) W ∧ ClB W b c ∧ Below w.heap.size w W ∧ b < W.heap.size
theorem KeS.keep {w W W' : World} {b : Nat} {c : Cl} (h : KeS w b c W) (hw : w.heap.size ≤ W.heap.size) (hb : Below W.heap.size W W') : KeS w b c W' := by
  obtain ⟨_, h2, h3, h4⟩ := h
  exact ⟨(h2.below hb h4).ld, h2.below hb h4, h3.trans (hb.mono hw), Nat.lt_of_lt_of_le h4 hb.size⟩
set_option maxRecDepth 100000 in
set_option maxHeartbeats 1600000 in
theorem ClauseMay_walk (c : Cl) (w : World) (hc : c.Ok) : Calls Try.prog 3 #[clv c] w fun e w' => e = .returned (.bool true) ∧ Below w.heap.size w w' := by
  have HS0 : Hid (KeS w w.heap.size c (w.alloc (.cells (clList c).toArray 28)).drew) := by
    have h := clB_new w c 28
    refine KeS.keep (W := w.alloc (.cells (clList c).toArray 28)) ⟨h.ld, h, below_new (Below.refl _ _) (Nat.le_refl _), by simp⟩ (by simp) (Below.refl _ _).drew
  have cC := hid (fun W (h : KeS w w.heap.size c W) => keep_of' (CMayCl_any c W hc) (fun _ => h.keep (Nat.le_of_lt h.2.2.2)))
  have cR := hid (fun W (h : KeS w w.heap.size c W) => keep_of' (RMayCl_any c W hc) (fun _ => h.keep (Nat.le_of_lt h.2.2.2)))
  have cL := hid (fun W (h : KeS w w.heap.size c W) => keep_of' (Lives13_any W) (fun _ => h.keep (Nat.le_of_lt h.2.2.2)))
  obtain ⟨b, hb⟩ : ∃ b, mayC c = b := ⟨_, rfl⟩
  rw [hb] at cC cR
  clear hb hc
  cases b
  all_goals
    go_enter Try.func3, Try.ntmps3
    go_wp2_with fail
    refine wp_region_held_drew (S := fun w' => KeS w w.heap.size c w') (by kernel_rfl) ?_ (fun hHeld => ?_)
    · exact HS0.out
    refine wpAnyH_take (i := 0) (v := ?_) rfl (by kernel_rfl) (by kernel_rfl) (by kernel_rfl) (fun _ _ _ h => h) (Or.inl ⟨by rfl, ?_⟩) (by assumption) ?_
    rotate_left
    · intro w hSw; (try dsimp only [RMS] at hSw); go_simp; (try with_reducible rfl)
    (try simp only [Act.put, List.getElem_toArray, List.getElem_cons_zero, List.setIfInBounds_toArray, List.set_cons_zero, List.set_cons_succ])
    refine wpAnyH_take (i := 2) (v := ?_) rfl (by kernel_rfl) (by kernel_rfl) (by kernel_rfl) (fun _ _ _ h => h) (Or.inl ⟨by rfl, ?_⟩) (by assumption) ?_
    rotate_left
    · intro w hSw; (try dsimp only [RMS] at hSw); go_simp; (try with_reducible rfl)
    (try simp only [Act.put, List.getElem_toArray, List.getElem_cons_succ, List.getElem_cons_zero, List.setIfInBounds_toArray, List.set_cons_zero, List.set_cons_succ])
    refine wpAnyH_ready (rs := [1]) (by kernel_rfl) (by simp) ?_
    refine AllReadyH.cons rfl (fun K hK => ?_) AllReadyH.nil
    go_simp
    refine (cC.out _ (by assumption)).mono ?_; rintro e w2 ⟨rfl, hS⟩
    (try go_wp2_with fail)
    refine hK.out _ _ (by assumption) (fun hHeld => ?_)
    clear hK K
    (try simp only [Act.put, List.getElem_toArray, List.getElem_cons_succ, List.getElem_cons_zero, List.setIfInBounds_toArray, List.set_cons_zero, List.set_cons_succ])
    refine wpAnyH_ready (rs := [3]) (by kernel_rfl) (by simp) ?_
    refine AllReadyH.cons rfl (fun K hK => ?_) AllReadyH.nil
    go_simp
    refine (cR.out _ (by assumption)).mono ?_; rintro e w2 ⟨rfl, hS⟩
    (try go_wp2_with fail)
    refine hK.out _ _ (by assumption) (fun hHeld => ?_)
    clear hK K
    (try simp only [Act.put, List.getElem_toArray, List.getElem_cons_succ, List.getElem_cons_zero, List.setIfInBounds_toArray, List.set_cons_zero, List.set_cons_succ])
    refine wpAnyH_take (i := 4) (v := ?_) rfl (by kernel_rfl) (by kernel_rfl) (by kernel_rfl) (fun _ _ _ h => h) (Or.inl ⟨by rfl, ?_⟩) (by assumption) ?_
    rotate_left
    · intro w hSw; (try dsimp only [RMS] at hSw); go_simp; (try with_reducible rfl)
    (try simp only [Act.put, List.getElem_toArray, List.getElem_cons_succ, List.getElem_cons_zero, List.setIfInBounds_toArray, List.set_cons_zero, List.set_cons_succ])
    refine wpAnyH_take (i := 5) (v := ?_) rfl (by kernel_rfl) (by kernel_rfl) (by kernel_rfl) (fun _ _ _ h => h) (Or.inl ⟨by rfl, ?_⟩) (by assumption) ?_
    rotate_left
    · intro w hSw; (try dsimp only [RMS] at hSw); go_simp; (try with_reducible rfl)
    (try simp only [Act.put, List.getElem_toArray, List.getElem_cons_succ, List.getElem_cons_zero, List.setIfInBounds_toArray, List.set_cons_zero, List.set_cons_succ])
    refine wpAnyH_ready (rs := [6]) (by kernel_rfl) (by simp) ?_
    refine AllReadyH.cons rfl (fun K hK => ?_) AllReadyH.nil
    go_simp
    refine (cL.out _ (by assumption)).mono ?_; rintro e w2 ⟨rfl, hS⟩
    (try go_wp2_with fail)
    refine hK.out _ _ (by assumption) (fun hHeld => ?_)
    clear hK K
    (try simp only [Act.put, List.getElem_toArray, List.getElem_cons_succ, List.getElem_cons_zero, List.setIfInBounds_toArray, List.set_cons_zero, List.set_cons_succ])
    refine wpAnyH_take (i := 7) (v := ?_) rfl (by kernel_rfl) (by kernel_rfl) (by kernel_rfl) (fun _ _ _ h => h) (Or.inl ⟨by rfl, ?_⟩) (by assumption) ?_
    rotate_left
    · intro w hSw; (try dsimp only [RMS] at hSw); go_simp; (try with_reducible rfl)
    (try simp only [Act.put, List.getElem_toArray, List.getElem_cons_succ, List.getElem_cons_zero, List.setIfInBounds_toArray, List.set_cons_zero, List.set_cons_succ])
    refine wpAnyH_take (i := 8) (v := ?_) rfl (by kernel_rfl) (by kernel_rfl) (by kernel_rfl) (fun _ _ _ h => h) (Or.inl ⟨by rfl, ?_⟩) (by assumption) ?_
    rotate_left
    · intro w hSw; (try dsimp only [RMS] at hSw); go_simp; (try with_reducible rfl)
    (try simp only [Act.put, List.getElem_toArray, List.getElem_cons_succ, List.getElem_cons_zero, List.setIfInBounds_toArray, List.set_cons_zero, List.set_cons_succ])
    refine wpAnyH_done (by kernel_rfl) ?_ _
    go_wp2
    go_ret
    exact ⟨rfl, (‹KeS w w.heap.size c _›).2.2.1⟩
end Go.Proofs.Ytndfckpcbiecnaa

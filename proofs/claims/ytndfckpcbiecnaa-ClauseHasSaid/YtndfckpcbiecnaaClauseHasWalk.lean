/-
  ferialaw13.ClauseHas answers true.
-/
import Derived.Test.YtndfckpcbiecnaaClRHas
import Derived.Shelf.Abstract
namespace Go.Proofs.Ytndfckpcbiecnaa
open Go.RowKit
set_option linter.unusedVariables false

attribute [local go_sem ↓] loadAt_cl eql_clS
theorem run_ne_nilFunc {P : Program} {t : TypeId} {f : Fn} {a c : Array Value} {w : World} (h : ∃ x y z, P.underlying t = some (.func x y z)) : (binOp .neq t (.func f a c) .nilFunc).run P w = .ok (.bool true) w := by
  obtain ⟨x, y, z, h⟩ := h
  have : binOp .neq t (.func f a c) .nilFunc = (do pure (.bool (!(← Op.equal t (.func f a c) .nilFunc)))) := by cases f <;> rfl
  have h2 : (Op.equalIn (9999 + 1) t (.func f a c) .nilFunc).run P w = .ok false w := run_equalIn_func_nil h
  rw [this]
  simp only [Op.equal, Op.maxDepth, Sem.run_bind, h2, Result.andThen_ok, Sem.run_pure, Bool.not_false]
abbrev LdF (W : World) (b : Nat) (c : Cl) : Prop := (loadClS (.pointer (some ⟨b, 0, none⟩))).run Try.prog W = .ok (clv c) W
abbrev HvS (w : World) (c o : Cl) (b2 b3 : Nat) (f u : Int) (W : World) : Prop :=
  LdF W w.heap.size c ∧ LdF W (w.heap.size + 1) o ∧
  (W.cell? ⟨b2, 0, none⟩ = some (.int .i64 f) ∧ W.cell? ⟨b2, 1, none⟩ = some (.int .i64 u) ∧ W.cell? ⟨b3, 0, none⟩ = some (.int .i64 f) ∧ W.cell? ⟨b3, 1, none⟩ = some (.int .i64 u)) ∧
  ClB W w.heap.size c ∧ ClB W (w.heap.size + 1) o ∧ Below w.heap.size w W ∧ (w.heap.size + 1 < W.heap.size ∧ b2 < W.heap.size ∧ b3 < W.heap.size)
theorem HvS.keep {w W W' : World} {c o : Cl} {b2 b3 : Nat} {f u : Int} (h : HvS w c o b2 b3 f u W) (hb : Below W.heap.size W W') : HvS w c o b2 b3 f u W' := by
  obtain ⟨_, _, ⟨h1, h2, h3, h4⟩, h5, h6, h7, h8, h9, h10⟩ := h
  have k5 := h5.below hb (by omega)
  have k6 := h6.below hb h8
  exact ⟨k5.ld, k6.ld, ⟨(hb.cell (p := ⟨b2, 0, none⟩) h9).trans h1, (hb.cell (p := ⟨b2, 1, none⟩) h9).trans h2, (hb.cell (p := ⟨b3, 0, none⟩) h10).trans h3, (hb.cell (p := ⟨b3, 1, none⟩) h10).trans h4⟩, k5, k6,
    h7.trans (hb.mono (by omega)), Nat.lt_of_lt_of_le h8 hb.size, Nat.lt_of_lt_of_le h9 hb.size, Nat.lt_of_lt_of_le h10 hb.size⟩
set_option maxRecDepth 100000 in
set_option maxHeartbeats 6400000 in
theorem ClauseHas_no (c : Cl) (t : Int) (o : Cl) (w : World) (hc : c.Ok) (ho : o.Ok) (hw : winB t = false) : Calls Try.prog 7 #[clv c, .int .i64 t, clv o] w fun e w' => e = .returned (.bool true) ∧ Below w.heap.size w w' := by
  obtain ⟨W0, hW0⟩ : ∃ W0, (w.alloc (.cells (clList c).toArray 28)).alloc (.cells (clList o).toArray 28) = W0 := ⟨_, rfl⟩
  have hC0 : ClB W0 w.heap.size c := by rw [← hW0]; exact clB_new2 w c _ _
  have hO0 : ClB W0 (w.heap.size + 1) o := by
    have h2 := clB_new (w.alloc (.cells (clList c).toArray 28)) o 28
    rw [World.size_alloc] at h2
    rw [← hW0]; exact h2
  have hB0 : Below w.heap.size w W0 := by rw [← hW0]; exact below_new (below_new (Below.refl _ _) (Nat.le_refl _)) (by simp)
  have hs0 : w.heap.size + 1 < W0.heap.size := by rw [← hW0]; simp
  have cSp := hid (fun W => CSpan_any c W)
  have cHd := hid (fun W => RHeld9_any c.fr c.un W)
  have cH := hid (fun W => CHas_any c t W hc)
  have cR := hid (fun W => RHas13_any c t W hc)
  have cA := hid (fun W => CSame_any c o W hc ho)
  have cB := hid (fun W => CSame_any c c W hc hc)
  have heqH := hid (fun W => eqlS_run c o W hc ho)
  have cI := hid (fun W => RMIn_any t W)
  have cL := hid (fun W => Lives13_any W)
  rw [clSame_self] at cB
  obtain ⟨f, hf⟩ : ∃ a, heldF c.fr c.un = a := ⟨_, rfl⟩
  obtain ⟨u, hu⟩ : ∃ a, heldU c.fr c.un = a := ⟨_, rfl⟩
  obtain ⟨x, hx⟩ : ∃ x, clSame c o = x := ⟨_, rfl⟩
  rw [hf, hu] at cSp cHd
  rw [hx] at cA heqH
  clear hf hu hx
  have hb : hasC c t = false := by rw [hasC, hw, Bool.false_and]
  rw [hb] at cH cR
  rw [hw] at cI
  clear hb hw hc ho
  have l0 := hC0.ld
  rw [← hW0] at l0
  have HC0 := hid hC0
  have HO0 := hid hO0
  have HB0 := hid hB0
  have Hs0 := hid hs0
  have HW0 := hid hW0
  clear hC0 hO0 hB0 hs0 hW0
  go_enter Try.func7, Try.ntmps7
  go_wp2_with fail
  rw [HW0.out]
  refine (cSp.out _).mono ?_
  rintro e w1 ⟨rfl, hB⟩
  have HB1 := hid (HB0.out.trans (hB.mono (by have := Hs0.out; omega)))
  have HC1 := hid (HC0.out.below hB (by have := Hs0.out; omega))
  have HO1 := hid (HO0.out.below hB Hs0.out)
  have Hs1 : Hid (w.heap.size + 1 < w1.heap.size) := Nat.lt_of_lt_of_le Hs0.out hB.size
  clear hB l0
  have hn1 := below_new (o := .cells #[.int .i64 f, .int .i64 u] 53) (Below.refl w1.heap.size w1) (Nat.le_refl _)
  obtain ⟨-, -, -, t3, t4⟩ := (HC1.out.below hn1 (by have := Hs1.out; omega)).tail
  have Hn1 := hid hn1
  clear hn1
  go_wp2_with fail
  refine (cHd.out _).mono ?_
  rintro e w2 ⟨rfl, hB⟩
  clear t3 t4
  have hB2 : Below w1.heap.size w1 w2 := Hn1.out.trans (hB.mono (by simp))
  have g1 := (hB.cell (p := ⟨w1.heap.size, 0, none⟩) (by simp)).trans (show _ = some (.int .i64 f) by simp [go_sem])
  have g2 := (hB.cell (p := ⟨w1.heap.size, 1, none⟩) (by simp)).trans (show _ = some (.int .i64 u) by simp [go_sem])
  have hs2 : w1.heap.size < w2.heap.size := by have := hB.size; rw [World.size_alloc] at this; exact this
  have hn2 := below_new (o := .cells #[.int .i64 f, .int .i64 u] 55) (Below.refl w2.heap.size w2) (Nat.le_refl _)
  have HV0 : Hid (HvS w c o w1.heap.size w2.heap.size f u (w2.alloc (.cells #[.int .i64 f, .int .i64 u] 55)).drew) := by
    have hs1 := Hs1.out
    have k1 := (HC1.out.below hB2 (by omega)).below hn2 (by omega)
    have k2 := (HO1.out.below hB2 (by omega)).below hn2 (by omega)
    refine HvS.keep (W := w2.alloc (.cells #[.int .i64 f, .int .i64 u] 55)) ⟨k1.ld, k2.ld, ⟨(hn2.cell (p := ⟨w1.heap.size, 0, none⟩) hs2).trans g1, (hn2.cell (p := ⟨w1.heap.size, 1, none⟩) hs2).trans g2, by simp [go_sem], by simp [go_sem]⟩, k1, k2,
      HB1.out.trans ((hB2.mono (by omega)).trans (hn2.mono (by omega))), by simp only [World.size_alloc]; omega, by simp only [World.size_alloc]; omega, by simp⟩ (Below.refl _ _).drew
  clear hB hB2 g1 g2 hs2 hn2
  have kH := hid (fun W (h : HvS w c o w1.heap.size w2.heap.size f u W) => keep_of' (cH.out W) (fun _ => h.keep))
  have kR := hid (fun W (h : HvS w c o w1.heap.size w2.heap.size f u W) => keep_of' (cR.out W) (fun _ => h.keep))
  have kA := hid (fun W (h : HvS w c o w1.heap.size w2.heap.size f u W) => keep_of' (cA.out W) (fun _ => h.keep))
  have kB := hid (fun W (h : HvS w c o w1.heap.size w2.heap.size f u W) => keep_of' (cB.out W) (fun _ => h.keep))
  have heq := heqH.out
  go_wp2_with fail
  refine wp_region_held_drew (S := fun w' => HvS w c o w1.heap.size w2.heap.size f u w') (by kernel_rfl) ?_ (fun hHeld => ?_)
  · exact HV0.out
  refine wpAnyH_take (i := 0) (v := ?_) rfl (by kernel_rfl) (by kernel_rfl) (by kernel_rfl) (fun _ _ _ h => h) (Or.inl ⟨by rfl, ?_⟩) (by assumption) ?_
  rotate_left
  · intro w hSw; (try dsimp only [RMS] at hSw); go_simp; (try with_reducible rfl)
  (try simp only [Act.put, List.getElem_toArray, List.getElem_cons_zero, List.setIfInBounds_toArray, List.set_cons_zero, List.set_cons_succ])
  refine wpAnyH_take (i := 1) (v := ?_) rfl (by kernel_rfl) (by kernel_rfl) (by kernel_rfl) (fun _ _ _ h => h) (Or.inl ⟨by rfl, ?_⟩) (by assumption) ?_
  rotate_left
  · intro w hSw; (try dsimp only [RMS] at hSw); go_simp; (try with_reducible rfl)
  (try simp only [Act.put, List.getElem_toArray, List.getElem_cons_succ, List.getElem_cons_zero, List.setIfInBounds_toArray, List.set_cons_zero, List.set_cons_succ])
  refine wpAnyH_take (i := 3) (v := ?_) rfl (by kernel_rfl) (by kernel_rfl) (by kernel_rfl) (fun _ _ _ h => h) (Or.inl ⟨by rfl, ?_⟩) (by assumption) ?_
  rotate_left
  · intro w hSw; (try dsimp only [RMS] at hSw); go_simp; (try with_reducible rfl)
  (try simp only [Act.put, List.getElem_toArray, List.getElem_cons_succ, List.getElem_cons_zero, List.setIfInBounds_toArray, List.set_cons_zero, List.set_cons_succ])
  refine wpAnyH_take (i := 4) (v := ?_) rfl (by kernel_rfl) (by kernel_rfl) (by kernel_rfl) (fun _ _ _ h => h) (Or.inl ⟨by rfl, ?_⟩) (by assumption) ?_
  rotate_left
  · intro w hSw; (try dsimp only [RMS] at hSw); go_simp; (try with_reducible rfl)
  (try simp only [Act.put, List.getElem_toArray, List.getElem_cons_succ, List.getElem_cons_zero, List.setIfInBounds_toArray, List.set_cons_zero, List.set_cons_succ])
  refine wpAnyH_ready (rs := [2]) (by kernel_rfl) (by simp) ?_
  refine AllReadyH.cons rfl (fun K hK => ?_) AllReadyH.nil
  go_simp
  refine (kH.out _ (by assumption)).mono ?_; rintro e wr ⟨rfl, hS⟩
  (try go_wp2_with fail)
  refine hK.out _ _ (by assumption) (fun hHeld => ?_)
  clear hK K
  (try simp only [Act.put, List.getElem_toArray, List.getElem_cons_succ, List.getElem_cons_zero, List.setIfInBounds_toArray, List.set_cons_zero, List.set_cons_succ])
  refine wpAnyH_ready (rs := [5]) (by kernel_rfl) (by simp) ?_
  refine AllReadyH.cons rfl (fun K hK => ?_) AllReadyH.nil
  go_simp
  refine (kR.out _ (by assumption)).mono ?_; rintro e wr ⟨rfl, hS⟩
  (try go_wp2_with fail)
  refine hK.out _ _ (by assumption) (fun hHeld => ?_)
  clear hK K
  (try simp only [Act.put, List.getElem_toArray, List.getElem_cons_succ, List.getElem_cons_zero, List.setIfInBounds_toArray, List.set_cons_zero, List.set_cons_succ])
  refine wpAnyH_take (i := 6) (v := ?_) rfl (by kernel_rfl) (by kernel_rfl) (by kernel_rfl) (fun _ _ _ h => h) (Or.inl ⟨by rfl, ?_⟩) (by assumption) ?_
  rotate_left
  · intro w hSw; (try dsimp only [RMS] at hSw); go_simp; (try with_reducible rfl)
  (try simp only [Act.put, List.getElem_toArray, List.getElem_cons_succ, List.getElem_cons_zero, List.setIfInBounds_toArray, List.set_cons_zero, List.set_cons_succ])
  refine wpAnyH_take (i := 7) (v := ?_) rfl (by kernel_rfl) (by kernel_rfl) (by kernel_rfl) (fun _ _ _ h => h) (Or.inl ⟨by rfl, ?_⟩) (by assumption) ?_
  rotate_left
  · intro w hSw; (try dsimp only [RMS] at hSw); go_simp; (try with_reducible rfl)
  (try simp only [Act.put, List.getElem_toArray, List.getElem_cons_succ, List.getElem_cons_zero, List.setIfInBounds_toArray, List.set_cons_zero, List.set_cons_succ])
  refine wpAnyH_take (i := 8) (v := ?_) rfl (by kernel_rfl) (by kernel_rfl) (by kernel_rfl) (fun _ _ _ h => h) (Or.inl ⟨by rfl, ?_⟩) (by assumption) ?_
  rotate_left
  · intro w hSw; (try dsimp only [RMS] at hSw); go_simp; (try with_reducible rfl)
  (try simp only [Act.put, List.getElem_toArray, List.getElem_cons_succ, List.getElem_cons_zero, List.setIfInBounds_toArray, List.set_cons_zero, List.set_cons_succ])
  refine wpAnyH_take (i := 9) (v := ?_) rfl (by kernel_rfl) (by kernel_rfl) (by kernel_rfl) (fun _ _ _ h => h) (Or.inl ⟨by rfl, ?_⟩) (by assumption) ?_
  rotate_left
  · intro w hSw; (try dsimp only [RMS] at hSw); go_simp; (try with_reducible rfl)
  (try simp only [Act.put, List.getElem_toArray, List.getElem_cons_succ, List.getElem_cons_zero, List.setIfInBounds_toArray, List.set_cons_zero, List.set_cons_succ])
  refine wpAnyH_take (i := 10) (v := ?_) rfl (by kernel_rfl) (by kernel_rfl) (by kernel_rfl) (fun _ _ _ h => h) (Or.inl ⟨by rfl, ?_⟩) (by assumption) ?_
  rotate_left
  · intro w hSw; (try dsimp only [RMS] at hSw); go_simp; (try with_reducible rfl)
  (try simp only [Act.put, List.getElem_toArray, List.getElem_cons_succ, List.getElem_cons_zero, List.setIfInBounds_toArray, List.set_cons_zero, List.set_cons_succ])
  refine wpAnyH_take (i := 11) (v := ?_) rfl (by kernel_rfl) (by kernel_rfl) (by kernel_rfl) (fun _ _ _ h => h) (Or.inl ⟨by rfl, ?_⟩) (by assumption) ?_
  rotate_left
  · intro w hSw; (try dsimp only [RMS] at hSw); go_simp; (try with_reducible rfl)
  (try simp only [Act.put, List.getElem_toArray, List.getElem_cons_succ, List.getElem_cons_zero, List.setIfInBounds_toArray, List.set_cons_zero, List.set_cons_succ])
  refine wpAnyH_take (i := 12) (v := ?_) rfl (by kernel_rfl) (by kernel_rfl) (by kernel_rfl) (fun _ _ _ h => h) (Or.inl ⟨by rfl, ?_⟩) (by assumption) ?_
  rotate_left
  · intro w hSw; (try dsimp only [RMS] at hSw); go_simp; (try with_reducible rfl)
  (try simp only [Act.put, List.getElem_toArray, List.getElem_cons_succ, List.getElem_cons_zero, List.setIfInBounds_toArray, List.set_cons_zero, List.set_cons_succ])
  refine wpAnyH_take (i := 13) (v := ?_) rfl (by kernel_rfl) (by kernel_rfl) (by kernel_rfl) (fun _ _ _ h => h) (Or.inl ⟨by rfl, ?_⟩) (by assumption) ?_
  rotate_left
  · intro w hSw; (try dsimp only [RMS] at hSw); go_simp; (try with_reducible rfl)
  (try simp only [Act.put, List.getElem_toArray, List.getElem_cons_succ, List.getElem_cons_zero, List.setIfInBounds_toArray, List.set_cons_zero, List.set_cons_succ])
  refine wpAnyH_take (i := 14) (v := ?_) rfl (by kernel_rfl) (by kernel_rfl) (by kernel_rfl) (fun _ _ _ h => h) (Or.inl ⟨by rfl, ?_⟩) (by assumption) ?_
  rotate_left
  · intro w hSw; (try dsimp only [RMS] at hSw); go_simp; (try with_reducible rfl)
  (try simp only [Act.put, List.getElem_toArray, List.getElem_cons_succ, List.getElem_cons_zero, List.setIfInBounds_toArray, List.set_cons_zero, List.set_cons_succ])
  refine wpAnyH_take (i := 16) (v := ?_) rfl (by kernel_rfl) (by kernel_rfl) (by kernel_rfl) (fun _ _ _ h => h) (Or.inl ⟨by rfl, ?_⟩) (by assumption) ?_
  rotate_left
  · intro w hSw; (try dsimp only [RMS] at hSw); go_simp; (try with_reducible rfl)
  (try simp only [Act.put, List.getElem_toArray, List.getElem_cons_succ, List.getElem_cons_zero, List.setIfInBounds_toArray, List.set_cons_zero, List.set_cons_succ])
  refine wpAnyH_take (i := 17) (v := ?_) rfl (by kernel_rfl) (by kernel_rfl) (by kernel_rfl) (fun _ _ _ h => h) (Or.inl ⟨by rfl, ?_⟩) (by assumption) ?_
  rotate_left
  · intro w hSw; (try dsimp only [RMS] at hSw); go_simp; (try with_reducible rfl)
  (try simp only [Act.put, List.getElem_toArray, List.getElem_cons_succ, List.getElem_cons_zero, List.setIfInBounds_toArray, List.set_cons_zero, List.set_cons_succ])
  refine wpAnyH_take (i := 18) (v := ?_) rfl (by kernel_rfl) (by kernel_rfl) (by kernel_rfl) (fun _ _ _ h => h) (Or.inl ⟨by rfl, ?_⟩) (by assumption) ?_
  rotate_left
  · intro w hSw; (try dsimp only [RMS] at hSw); go_simp; (try with_reducible rfl)
  (try simp only [Act.put, List.getElem_toArray, List.getElem_cons_succ, List.getElem_cons_zero, List.setIfInBounds_toArray, List.set_cons_zero, List.set_cons_succ])
  refine wpAnyH_ready (rs := [15]) (by kernel_rfl) (by simp) ?_
  refine AllReadyH.cons rfl (fun K hK => ?_) AllReadyH.nil
  go_simp
  refine (kA.out _ (by assumption)).mono ?_; rintro e wr ⟨rfl, hS⟩
  (try go_wp2_with fail)
  refine hK.out _ _ (by assumption) (fun hHeld => ?_)
  clear hK K
  (try simp only [Act.put, List.getElem_toArray, List.getElem_cons_succ, List.getElem_cons_zero, List.setIfInBounds_toArray, List.set_cons_zero, List.set_cons_succ])
  refine wpAnyH_take (i := 19) (v := ?_) rfl (by kernel_rfl) (by kernel_rfl) (by kernel_rfl) (fun _ _ _ h => h) (Or.inl ⟨by rfl, ?_⟩) (by assumption) ?_
  rotate_left
  · intro w hSw; (try dsimp only [RMS] at hSw); go_simp; (try with_reducible rfl)
  (try simp only [Act.put, List.getElem_toArray, List.getElem_cons_succ, List.getElem_cons_zero, List.setIfInBounds_toArray, List.set_cons_zero, List.set_cons_succ])
  refine wpAnyH_take (i := 20) (v := ?_) rfl (by kernel_rfl) (by kernel_rfl) (by kernel_rfl) (fun _ _ _ h => h) (Or.inl ⟨by rfl, ?_⟩) (by assumption) ?_
  rotate_left
  · intro w hSw; (try dsimp only [RMS] at hSw); go_simp; (try with_reducible rfl)
  (try simp only [Act.put, List.getElem_toArray, List.getElem_cons_succ, List.getElem_cons_zero, List.setIfInBounds_toArray, List.set_cons_zero, List.set_cons_succ])
  refine wpAnyH_take (i := 21) (v := ?_) rfl (by kernel_rfl) (by kernel_rfl) (by kernel_rfl) (fun _ _ _ h => h) (Or.inl ⟨by rfl, ?_⟩) (by assumption) ?_
  rotate_left
  · intro w hSw; (try dsimp only [RMS] at hSw); go_simp; (try with_reducible rfl)
  (try simp only [Act.put, List.getElem_toArray, List.getElem_cons_succ, List.getElem_cons_zero, List.setIfInBounds_toArray, List.set_cons_zero, List.set_cons_succ])
  refine wpAnyH_take (i := 22) (v := ?_) rfl (by kernel_rfl) (by kernel_rfl) (by kernel_rfl) (fun _ _ _ h => h) (Or.inl ⟨by rfl, ?_⟩) (by assumption) ?_
  rotate_left
  · intro w hSw; (try dsimp only [RMS] at hSw); go_simp; (try with_reducible rfl)
  (try simp only [Act.put, List.getElem_toArray, List.getElem_cons_succ, List.getElem_cons_zero, List.setIfInBounds_toArray, List.set_cons_zero, List.set_cons_succ])
  refine wpAnyH_take (i := 23) (v := ?_) rfl (by kernel_rfl) (by kernel_rfl) (by kernel_rfl) (fun _ _ _ h => h) (Or.inl ⟨by rfl, ?_⟩) (by assumption) ?_
  rotate_left
  · intro w hSw; (try dsimp only [RMS] at hSw); go_simp; (try with_reducible rfl)
  (try simp only [Act.put, List.getElem_toArray, List.getElem_cons_succ, List.getElem_cons_zero, List.setIfInBounds_toArray, List.set_cons_zero, List.set_cons_succ])
  refine wpAnyH_ready (rs := [24]) (by kernel_rfl) (by simp) ?_
  refine AllReadyH.cons rfl (fun K hK => ?_) AllReadyH.nil
  go_simp
  refine (kB.out _ (by assumption)).mono ?_; rintro e wr ⟨rfl, hS⟩
  (try go_wp2_with fail)
  refine hK.out _ _ (by assumption) (fun hHeld => ?_)
  clear hK K
  (try simp only [Act.put, List.getElem_toArray, List.getElem_cons_succ, List.getElem_cons_zero, List.setIfInBounds_toArray, List.set_cons_zero, List.set_cons_succ])
  refine wpAnyH_take (i := 25) (v := ?_) rfl (by kernel_rfl) (by kernel_rfl) (by kernel_rfl) (fun _ _ _ h => h) (Or.inl ⟨by rfl, ?_⟩) (by assumption) ?_
  rotate_left
  · intro w hSw; (try dsimp only [RMS] at hSw); go_simp; (try with_reducible rfl)
  (try simp only [Act.put, List.getElem_toArray, List.getElem_cons_succ, List.getElem_cons_zero, List.setIfInBounds_toArray, List.set_cons_zero, List.set_cons_succ])
  refine wpAnyH_take (i := 26) (v := ?_) rfl (by kernel_rfl) (by kernel_rfl) (by kernel_rfl) (fun _ _ _ h => h) (Or.inl ⟨by rfl, ?_⟩) (by assumption) ?_
  rotate_left
  · intro w hSw; (try dsimp only [RMS] at hSw); go_simp; (try with_reducible rfl)
  (try simp only [Act.put, List.getElem_toArray, List.getElem_cons_succ, List.getElem_cons_zero, List.setIfInBounds_toArray, List.set_cons_zero, List.set_cons_succ])
  refine wpAnyH_done (by kernel_rfl) ?_ _
  have HV := hid ‹HvS w c o w1.heap.size w2.heap.size f u _›
  have l3 := HV.out.1
  go_wp2_with fail
  refine (cI.out _).mono ?_
  rintro e w' ⟨rfl, rfl⟩
  go_wp2_with fail
  refine (kH.out _ HV.out).mono ?_
  rintro e w4 ⟨rfl, hS4⟩
  have HV4 := hid hS4
  clear hS4 l3
  go_wp2_with fail
  refine (cL.out _).mono ?_
  rintro e w5 ⟨rfl, hB⟩
  have HV5 := hid (HV4.out.keep hB)
  clear hB
  go_wp2
  go_ret
  exact ⟨rfl, HV5.out.2.2.2.2.2.1⟩
set_option maxRecDepth 100000 in
set_option maxHeartbeats 6400000 in
theorem ClauseHas_yes (c : Cl) (t : Int) (o : Cl) (w : World) (hc : c.Ok) (ho : o.Ok) (hw : winB t = true) (h0 : 0 ≤ t) (h1 : t < 12622780800) : Calls Try.prog 7 #[clv c, .int .i64 t, clv o] w fun e w' => e = .returned (.bool true) ∧ Below w.heap.size w w' := by
  obtain ⟨W0, hW0⟩ : ∃ W0, (w.alloc (.cells (clList c).toArray 28)).alloc (.cells (clList o).toArray 28) = W0 := ⟨_, rfl⟩
  have hC0 : ClB W0 w.heap.size c := by rw [← hW0]; exact clB_new2 w c _ _
  have hO0 : ClB W0 (w.heap.size + 1) o := by
    have h2 := clB_new (w.alloc (.cells (clList c).toArray 28)) o 28
    rw [World.size_alloc] at h2
    rw [← hW0]; exact h2
  have hB0 : Below w.heap.size w W0 := by rw [← hW0]; exact below_new (below_new (Below.refl _ _) (Nat.le_refl _)) (by simp)
  have hs0 : w.heap.size + 1 < W0.heap.size := by rw [← hW0]; simp
  have cSp := hid (fun W => CSpan_any c W)
  have cHd := hid (fun W => RHeld9_any c.fr c.un W)
  have cH := hid (fun W => CHas_any c t W hc)
  have cR := hid (fun W => RHas13_any c t W hc)
  have cA := hid (fun W => CSame_any c o W hc ho)
  have cB := hid (fun W => CSame_any c c W hc hc)
  have heqH := hid (fun W => eqlS_run c o W hc ho)
  have cI := hid (fun W => RMIn_any t W)
  have cL := hid (fun W => Lives13_any W)
  rw [clSame_self] at cB
  obtain ⟨f, hf⟩ : ∃ a, heldF c.fr c.un = a := ⟨_, rfl⟩
  obtain ⟨u, hu⟩ : ∃ a, heldU c.fr c.un = a := ⟨_, rfl⟩
  obtain ⟨x, hx⟩ : ∃ x, clSame c o = x := ⟨_, rfl⟩
  rw [hf, hu] at cSp cHd
  rw [hx] at cA heqH
  clear hf hu hx
  obtain ⟨b, hb⟩ : ∃ b, hasC c t = b := ⟨_, rfl⟩
  rw [hb] at cH cR
  rw [hw] at cI
  have cSh := hid (fun W => RShape_any (t / 86400) W (by omega) (by omega))
  have cDs : Hid (∀ W, Calls Try.prog 36 #[clv c] W fun e w' => (∃ fv, e = .returned fv ∧ ∃ g cap, fv = .func (.func g) #[] cap ∧ (g = 101 ∧ cap = #[] ∨ ∃ b1 b2 : Nat, g = 103 ∧ cap = #[.pointer (some ⟨b1, 0, none⟩), .pointer (some ⟨b2, 0, none⟩)]) ∧
      ∀ W', Below w'.heap.size w' W' → Calls Try.prog g (#[shN (t / 86400)] ++ cap) W' fun e w'' => e = .returned (.bool (dayC c (t / 86400))) ∧ Below W'.heap.size W' w'') ∧ Below W.heap.size W w') := fun W =>
    (CDays_any c W hc).mono fun e w' ⟨fv, he, hv, hb⟩ => ⟨⟨fv, he, hv.call hc (by omega) (by omega)⟩, hb⟩
  have cRd := hid (fun W => RDay13_any c (t / 86400) W hc (by omega) (by omega))
  have cDy := hid (fun W => CDay_any c (t / 86400) W hc (by omega) (by omega))
  obtain ⟨a0, a1, a2, a3, a4, a5, a6, a7, a8, a9, hsh⟩ := shN_ten (t / 86400)
  rw [hsh] at cSh cDs cRd cDy
  obtain ⟨y, hy⟩ : ∃ y, dayC c (t / 86400) = y := ⟨_, rfl⟩
  rw [hy] at cDs cRd cDy
  clear hb hw hc ho hsh hy
  have l0 := hC0.ld
  rw [← hW0] at l0
  have HC0 := hid hC0
  have HO0 := hid hO0
  have HB0 := hid hB0
  have Hs0 := hid hs0
  have HW0 := hid hW0
  clear hC0 hO0 hB0 hs0 hW0
  go_enter Try.func7, Try.ntmps7
  go_wp2_with fail
  rw [HW0.out]
  refine (cSp.out _).mono ?_
  rintro e w1 ⟨rfl, hB⟩
  have HB1 := hid (HB0.out.trans (hB.mono (by have := Hs0.out; omega)))
  have HC1 := hid (HC0.out.below hB (by have := Hs0.out; omega))
  have HO1 := hid (HO0.out.below hB Hs0.out)
  have Hs1 : Hid (w.heap.size + 1 < w1.heap.size) := Nat.lt_of_lt_of_le Hs0.out hB.size
  clear hB l0
  have hn1 := below_new (o := .cells #[.int .i64 f, .int .i64 u] 53) (Below.refl w1.heap.size w1) (Nat.le_refl _)
  obtain ⟨-, -, -, t3, t4⟩ := (HC1.out.below hn1 (by have := Hs1.out; omega)).tail
  have Hn1 := hid hn1
  clear hn1
  go_wp2_with fail
  refine (cHd.out _).mono ?_
  rintro e w2 ⟨rfl, hB⟩
  clear t3 t4
  have hB2 : Below w1.heap.size w1 w2 := Hn1.out.trans (hB.mono (by simp))
  have g1 := (hB.cell (p := ⟨w1.heap.size, 0, none⟩) (by simp)).trans (show _ = some (.int .i64 f) by simp [go_sem])
  have g2 := (hB.cell (p := ⟨w1.heap.size, 1, none⟩) (by simp)).trans (show _ = some (.int .i64 u) by simp [go_sem])
  have hs2 : w1.heap.size < w2.heap.size := by have := hB.size; rw [World.size_alloc] at this; exact this
  have hn2 := below_new (o := .cells #[.int .i64 f, .int .i64 u] 55) (Below.refl w2.heap.size w2) (Nat.le_refl _)
  have HV0 : Hid (HvS w c o w1.heap.size w2.heap.size f u (w2.alloc (.cells #[.int .i64 f, .int .i64 u] 55)).drew) := by
    have hs1 := Hs1.out
    have k1 := (HC1.out.below hB2 (by omega)).below hn2 (by omega)
    have k2 := (HO1.out.below hB2 (by omega)).below hn2 (by omega)
    refine HvS.keep (W := w2.alloc (.cells #[.int .i64 f, .int .i64 u] 55)) ⟨k1.ld, k2.ld, ⟨(hn2.cell (p := ⟨w1.heap.size, 0, none⟩) hs2).trans g1, (hn2.cell (p := ⟨w1.heap.size, 1, none⟩) hs2).trans g2, by simp [go_sem], by simp [go_sem]⟩, k1, k2,
      HB1.out.trans ((hB2.mono (by omega)).trans (hn2.mono (by omega))), by simp only [World.size_alloc]; omega, by simp only [World.size_alloc]; omega, by simp⟩ (Below.refl _ _).drew
  clear hB hB2 g1 g2 hs2 hn2
  have kH := hid (fun W (h : HvS w c o w1.heap.size w2.heap.size f u W) => keep_of' (cH.out W) (fun _ => h.keep))
  have kR := hid (fun W (h : HvS w c o w1.heap.size w2.heap.size f u W) => keep_of' (cR.out W) (fun _ => h.keep))
  have kA := hid (fun W (h : HvS w c o w1.heap.size w2.heap.size f u W) => keep_of' (cA.out W) (fun _ => h.keep))
  have kB := hid (fun W (h : HvS w c o w1.heap.size w2.heap.size f u W) => keep_of' (cB.out W) (fun _ => h.keep))
  have heq := heqH.out
  go_wp2_with fail
  refine wp_region_held_drew (S := fun w' => HvS w c o w1.heap.size w2.heap.size f u w') (by kernel_rfl) ?_ (fun hHeld => ?_)
  · exact HV0.out
  refine wpAnyH_take (i := 0) (v := ?_) rfl (by kernel_rfl) (by kernel_rfl) (by kernel_rfl) (fun _ _ _ h => h) (Or.inl ⟨by rfl, ?_⟩) (by assumption) ?_
  rotate_left
  · intro w hSw; (try dsimp only [RMS] at hSw); go_simp; (try with_reducible rfl)
  (try simp only [Act.put, List.getElem_toArray, List.getElem_cons_zero, List.setIfInBounds_toArray, List.set_cons_zero, List.set_cons_succ])
  refine wpAnyH_take (i := 1) (v := ?_) rfl (by kernel_rfl) (by kernel_rfl) (by kernel_rfl) (fun _ _ _ h => h) (Or.inl ⟨by rfl, ?_⟩) (by assumption) ?_
  rotate_left
  · intro w hSw; (try dsimp only [RMS] at hSw); go_simp; (try with_reducible rfl)
  (try simp only [Act.put, List.getElem_toArray, List.getElem_cons_succ, List.getElem_cons_zero, List.setIfInBounds_toArray, List.set_cons_zero, List.set_cons_succ])
  refine wpAnyH_take (i := 3) (v := ?_) rfl (by kernel_rfl) (by kernel_rfl) (by kernel_rfl) (fun _ _ _ h => h) (Or.inl ⟨by rfl, ?_⟩) (by assumption) ?_
  rotate_left
  · intro w hSw; (try dsimp only [RMS] at hSw); go_simp; (try with_reducible rfl)
  (try simp only [Act.put, List.getElem_toArray, List.getElem_cons_succ, List.getElem_cons_zero, List.setIfInBounds_toArray, List.set_cons_zero, List.set_cons_succ])
  refine wpAnyH_take (i := 4) (v := ?_) rfl (by kernel_rfl) (by kernel_rfl) (by kernel_rfl) (fun _ _ _ h => h) (Or.inl ⟨by rfl, ?_⟩) (by assumption) ?_
  rotate_left
  · intro w hSw; (try dsimp only [RMS] at hSw); go_simp; (try with_reducible rfl)
  (try simp only [Act.put, List.getElem_toArray, List.getElem_cons_succ, List.getElem_cons_zero, List.setIfInBounds_toArray, List.set_cons_zero, List.set_cons_succ])
  refine wpAnyH_ready (rs := [2]) (by kernel_rfl) (by simp) ?_
  refine AllReadyH.cons rfl (fun K hK => ?_) AllReadyH.nil
  go_simp
  refine (kH.out _ (by assumption)).mono ?_; rintro e wr ⟨rfl, hS⟩
  (try go_wp2_with fail)
  refine hK.out _ _ (by assumption) (fun hHeld => ?_)
  clear hK K
  (try simp only [Act.put, List.getElem_toArray, List.getElem_cons_succ, List.getElem_cons_zero, List.setIfInBounds_toArray, List.set_cons_zero, List.set_cons_succ])
  refine wpAnyH_ready (rs := [5]) (by kernel_rfl) (by simp) ?_
  refine AllReadyH.cons rfl (fun K hK => ?_) AllReadyH.nil
  go_simp
  refine (kR.out _ (by assumption)).mono ?_; rintro e wr ⟨rfl, hS⟩
  (try go_wp2_with fail)
  refine hK.out _ _ (by assumption) (fun hHeld => ?_)
  clear hK K
  (try simp only [Act.put, List.getElem_toArray, List.getElem_cons_succ, List.getElem_cons_zero, List.setIfInBounds_toArray, List.set_cons_zero, List.set_cons_succ])
  refine wpAnyH_take (i := 6) (v := ?_) rfl (by kernel_rfl) (by kernel_rfl) (by kernel_rfl) (fun _ _ _ h => h) (Or.inl ⟨by rfl, ?_⟩) (by assumption) ?_
  rotate_left
  · intro w hSw; (try dsimp only [RMS] at hSw); go_simp; (try with_reducible rfl)
  (try simp only [Act.put, List.getElem_toArray, List.getElem_cons_succ, List.getElem_cons_zero, List.setIfInBounds_toArray, List.set_cons_zero, List.set_cons_succ])
  refine wpAnyH_take (i := 7) (v := ?_) rfl (by kernel_rfl) (by kernel_rfl) (by kernel_rfl) (fun _ _ _ h => h) (Or.inl ⟨by rfl, ?_⟩) (by assumption) ?_
  rotate_left
  · intro w hSw; (try dsimp only [RMS] at hSw); go_simp; (try with_reducible rfl)
  (try simp only [Act.put, List.getElem_toArray, List.getElem_cons_succ, List.getElem_cons_zero, List.setIfInBounds_toArray, List.set_cons_zero, List.set_cons_succ])
  refine wpAnyH_take (i := 8) (v := ?_) rfl (by kernel_rfl) (by kernel_rfl) (by kernel_rfl) (fun _ _ _ h => h) (Or.inl ⟨by rfl, ?_⟩) (by assumption) ?_
  rotate_left
  · intro w hSw; (try dsimp only [RMS] at hSw); go_simp; (try with_reducible rfl)
  (try simp only [Act.put, List.getElem_toArray, List.getElem_cons_succ, List.getElem_cons_zero, List.setIfInBounds_toArray, List.set_cons_zero, List.set_cons_succ])
  refine wpAnyH_take (i := 9) (v := ?_) rfl (by kernel_rfl) (by kernel_rfl) (by kernel_rfl) (fun _ _ _ h => h) (Or.inl ⟨by rfl, ?_⟩) (by assumption) ?_
  rotate_left
  · intro w hSw; (try dsimp only [RMS] at hSw); go_simp; (try with_reducible rfl)
  (try simp only [Act.put, List.getElem_toArray, List.getElem_cons_succ, List.getElem_cons_zero, List.setIfInBounds_toArray, List.set_cons_zero, List.set_cons_succ])
  refine wpAnyH_take (i := 10) (v := ?_) rfl (by kernel_rfl) (by kernel_rfl) (by kernel_rfl) (fun _ _ _ h => h) (Or.inl ⟨by rfl, ?_⟩) (by assumption) ?_
  rotate_left
  · intro w hSw; (try dsimp only [RMS] at hSw); go_simp; (try with_reducible rfl)
  (try simp only [Act.put, List.getElem_toArray, List.getElem_cons_succ, List.getElem_cons_zero, List.setIfInBounds_toArray, List.set_cons_zero, List.set_cons_succ])
  refine wpAnyH_take (i := 11) (v := ?_) rfl (by kernel_rfl) (by kernel_rfl) (by kernel_rfl) (fun _ _ _ h => h) (Or.inl ⟨by rfl, ?_⟩) (by assumption) ?_
  rotate_left
  · intro w hSw; (try dsimp only [RMS] at hSw); go_simp; (try with_reducible rfl)
  (try simp only [Act.put, List.getElem_toArray, List.getElem_cons_succ, List.getElem_cons_zero, List.setIfInBounds_toArray, List.set_cons_zero, List.set_cons_succ])
  refine wpAnyH_take (i := 12) (v := ?_) rfl (by kernel_rfl) (by kernel_rfl) (by kernel_rfl) (fun _ _ _ h => h) (Or.inl ⟨by rfl, ?_⟩) (by assumption) ?_
  rotate_left
  · intro w hSw; (try dsimp only [RMS] at hSw); go_simp; (try with_reducible rfl)
  (try simp only [Act.put, List.getElem_toArray, List.getElem_cons_succ, List.getElem_cons_zero, List.setIfInBounds_toArray, List.set_cons_zero, List.set_cons_succ])
  refine wpAnyH_take (i := 13) (v := ?_) rfl (by kernel_rfl) (by kernel_rfl) (by kernel_rfl) (fun _ _ _ h => h) (Or.inl ⟨by rfl, ?_⟩) (by assumption) ?_
  rotate_left
  · intro w hSw; (try dsimp only [RMS] at hSw); go_simp; (try with_reducible rfl)
  (try simp only [Act.put, List.getElem_toArray, List.getElem_cons_succ, List.getElem_cons_zero, List.setIfInBounds_toArray, List.set_cons_zero, List.set_cons_succ])
  refine wpAnyH_take (i := 14) (v := ?_) rfl (by kernel_rfl) (by kernel_rfl) (by kernel_rfl) (fun _ _ _ h => h) (Or.inl ⟨by rfl, ?_⟩) (by assumption) ?_
  rotate_left
  · intro w hSw; (try dsimp only [RMS] at hSw); go_simp; (try with_reducible rfl)
  (try simp only [Act.put, List.getElem_toArray, List.getElem_cons_succ, List.getElem_cons_zero, List.setIfInBounds_toArray, List.set_cons_zero, List.set_cons_succ])
  refine wpAnyH_take (i := 16) (v := ?_) rfl (by kernel_rfl) (by kernel_rfl) (by kernel_rfl) (fun _ _ _ h => h) (Or.inl ⟨by rfl, ?_⟩) (by assumption) ?_
  rotate_left
  · intro w hSw; (try dsimp only [RMS] at hSw); go_simp; (try with_reducible rfl)
  (try simp only [Act.put, List.getElem_toArray, List.getElem_cons_succ, List.getElem_cons_zero, List.setIfInBounds_toArray, List.set_cons_zero, List.set_cons_succ])
  refine wpAnyH_take (i := 17) (v := ?_) rfl (by kernel_rfl) (by kernel_rfl) (by kernel_rfl) (fun _ _ _ h => h) (Or.inl ⟨by rfl, ?_⟩) (by assumption) ?_
  rotate_left
  · intro w hSw; (try dsimp only [RMS] at hSw); go_simp; (try with_reducible rfl)
  (try simp only [Act.put, List.getElem_toArray, List.getElem_cons_succ, List.getElem_cons_zero, List.setIfInBounds_toArray, List.set_cons_zero, List.set_cons_succ])
  refine wpAnyH_take (i := 18) (v := ?_) rfl (by kernel_rfl) (by kernel_rfl) (by kernel_rfl) (fun _ _ _ h => h) (Or.inl ⟨by rfl, ?_⟩) (by assumption) ?_
  rotate_left
  · intro w hSw; (try dsimp only [RMS] at hSw); go_simp; (try with_reducible rfl)
  (try simp only [Act.put, List.getElem_toArray, List.getElem_cons_succ, List.getElem_cons_zero, List.setIfInBounds_toArray, List.set_cons_zero, List.set_cons_succ])
  refine wpAnyH_ready (rs := [15]) (by kernel_rfl) (by simp) ?_
  refine AllReadyH.cons rfl (fun K hK => ?_) AllReadyH.nil
  go_simp
  refine (kA.out _ (by assumption)).mono ?_; rintro e wr ⟨rfl, hS⟩
  (try go_wp2_with fail)
  refine hK.out _ _ (by assumption) (fun hHeld => ?_)
  clear hK K
  (try simp only [Act.put, List.getElem_toArray, List.getElem_cons_succ, List.getElem_cons_zero, List.setIfInBounds_toArray, List.set_cons_zero, List.set_cons_succ])
  refine wpAnyH_take (i := 19) (v := ?_) rfl (by kernel_rfl) (by kernel_rfl) (by kernel_rfl) (fun _ _ _ h => h) (Or.inl ⟨by rfl, ?_⟩) (by assumption) ?_
  rotate_left
  · intro w hSw; (try dsimp only [RMS] at hSw); go_simp; (try with_reducible rfl)
  (try simp only [Act.put, List.getElem_toArray, List.getElem_cons_succ, List.getElem_cons_zero, List.setIfInBounds_toArray, List.set_cons_zero, List.set_cons_succ])
  refine wpAnyH_take (i := 20) (v := ?_) rfl (by kernel_rfl) (by kernel_rfl) (by kernel_rfl) (fun _ _ _ h => h) (Or.inl ⟨by rfl, ?_⟩) (by assumption) ?_
  rotate_left
  · intro w hSw; (try dsimp only [RMS] at hSw); go_simp; (try with_reducible rfl)
  (try simp only [Act.put, List.getElem_toArray, List.getElem_cons_succ, List.getElem_cons_zero, List.setIfInBounds_toArray, List.set_cons_zero, List.set_cons_succ])
  refine wpAnyH_take (i := 21) (v := ?_) rfl (by kernel_rfl) (by kernel_rfl) (by kernel_rfl) (fun _ _ _ h => h) (Or.inl ⟨by rfl, ?_⟩) (by assumption) ?_
  rotate_left
  · intro w hSw; (try dsimp only [RMS] at hSw); go_simp; (try with_reducible rfl)
  (try simp only [Act.put, List.getElem_toArray, List.getElem_cons_succ, List.getElem_cons_zero, List.setIfInBounds_toArray, List.set_cons_zero, List.set_cons_succ])
  refine wpAnyH_take (i := 22) (v := ?_) rfl (by kernel_rfl) (by kernel_rfl) (by kernel_rfl) (fun _ _ _ h => h) (Or.inl ⟨by rfl, ?_⟩) (by assumption) ?_
  rotate_left
  · intro w hSw; (try dsimp only [RMS] at hSw); go_simp; (try with_reducible rfl)
  (try simp only [Act.put, List.getElem_toArray, List.getElem_cons_succ, List.getElem_cons_zero, List.setIfInBounds_toArray, List.set_cons_zero, List.set_cons_succ])
  refine wpAnyH_take (i := 23) (v := ?_) rfl (by kernel_rfl) (by kernel_rfl) (by kernel_rfl) (fun _ _ _ h => h) (Or.inl ⟨by rfl, ?_⟩) (by assumption) ?_
  rotate_left
  · intro w hSw; (try dsimp only [RMS] at hSw); go_simp; (try with_reducible rfl)
  (try simp only [Act.put, List.getElem_toArray, List.getElem_cons_succ, List.getElem_cons_zero, List.setIfInBounds_toArray, List.set_cons_zero, List.set_cons_succ])
  refine wpAnyH_ready (rs := [24]) (by kernel_rfl) (by simp) ?_
  refine AllReadyH.cons rfl (fun K hK => ?_) AllReadyH.nil
  go_simp
  refine (kB.out _ (by assumption)).mono ?_; rintro e wr ⟨rfl, hS⟩
  (try go_wp2_with fail)
  refine hK.out _ _ (by assumption) (fun hHeld => ?_)
  clear hK K
  (try simp only [Act.put, List.getElem_toArray, List.getElem_cons_succ, List.getElem_cons_zero, List.setIfInBounds_toArray, List.set_cons_zero, List.set_cons_succ])
  refine wpAnyH_take (i := 25) (v := ?_) rfl (by kernel_rfl) (by kernel_rfl) (by kernel_rfl) (fun _ _ _ h => h) (Or.inl ⟨by rfl, ?_⟩) (by assumption) ?_
  rotate_left
  · intro w hSw; (try dsimp only [RMS] at hSw); go_simp; (try with_reducible rfl)
  (try simp only [Act.put, List.getElem_toArray, List.getElem_cons_succ, List.getElem_cons_zero, List.setIfInBounds_toArray, List.set_cons_zero, List.set_cons_succ])
  refine wpAnyH_take (i := 26) (v := ?_) rfl (by kernel_rfl) (by kernel_rfl) (by kernel_rfl) (fun _ _ _ h => h) (Or.inl ⟨by rfl, ?_⟩) (by assumption) ?_
  rotate_left
  · intro w hSw; (try dsimp only [RMS] at hSw); go_simp; (try with_reducible rfl)
  (try simp only [Act.put, List.getElem_toArray, List.getElem_cons_succ, List.getElem_cons_zero, List.setIfInBounds_toArray, List.set_cons_zero, List.set_cons_succ])
  refine wpAnyH_done (by kernel_rfl) ?_ _
  have HV := hid ‹HvS w c o w1.heap.size w2.heap.size f u _›
  have l3 := HV.out.1
  go_wp2_with fail
  refine (cI.out _).mono ?_
  rintro e w' ⟨rfl, rfl⟩
  go_wp2_with fail
  refine (cSh.out _).mono ?_
  rintro e w4 ⟨rfl, hB⟩
  have HV4 := hid (HV.out.keep hB)
  clear hB l3
  have hn4 := below_new (o := .cells #[.int .i64 a0, .int .i64 a1, .int .i64 a2, .int .i64 a3, .int .i64 a4, .int .i64 a5, .int .i64 a6, .int .i64 a7, .int .i64 a8, .int .i64 a9] 60) (Below.refl w4.heap.size w4) (Nat.le_refl _)
  have HV5 := hid (HV4.out.keep hn4)
  have Hq : Hid (ShC (w4.alloc (.cells #[.int .i64 a0, .int .i64 a1, .int .i64 a2, .int .i64 a3, .int .i64 a4, .int .i64 a5, .int .i64 a6, .int .i64 a7, .int .i64 a8, .int .i64 a9] 60)) w4.heap.size a0 a1 a2 a3 a4 a5 a6 a7 a8 a9) := shC_new w4 _ _ _ _ _ _ _ _ _ _ _
  have Hs4 : Hid (w4.heap.size < (w4.alloc (.cells #[.int .i64 a0, .int .i64 a1, .int .i64 a2, .int .i64 a3, .int .i64 a4, .int .i64 a5, .int .i64 a6, .int .i64 a7, .int .i64 a8, .int .i64 a9] 60)).heap.size) := by show _ < _; simp
  clear hn4
  have l4 := HV5.out.1
  go_wp2_with fail
  refine (cDs.out _).mono ?_
  rintro e w6 ⟨⟨fv, rfl, g, cap, rfl, hg, hcall⟩, hB⟩
  have HV6 := hid (HV5.out.keep hB)
  have Hq6 := hid (Hq.out.below hB Hs4.out)
  have Hs6 : Hid (w4.heap.size < w6.heap.size) := Nat.lt_of_lt_of_le Hs4.out hB.size
  have HK := hid hcall
  clear hB hcall l4
  have l6 := HV6.out.1
  obtain ⟨q0, q1, q2, q3, q4, q5, q6, q7, q8, q9⟩ := Hq6.out
  go_wp2_with fail
  refine (cRd.out _).mono ?_
  rintro e w7 ⟨rfl, hB⟩
  have HV7 := hid (HV6.out.keep hB)
  have Hq7 := hid (Hq6.out.below hB Hs6.out)
  have Hs7 : Hid (w4.heap.size < w7.heap.size) := Nat.lt_of_lt_of_le Hs6.out hB.size
  have HB7 := hid hB
  clear hB l6 q0 q1 q2 q3 q4 q5 q6 q7 q8 q9
  have hnil := fun (f : Fn) (a : Array Value) W => run_ne_nilFunc (P := Try.prog) (t := 62) (f := f) (a := #[]) (c := a) (w := W) ⟨_, _, _, Try.underlying62⟩
  rcases hg with ⟨rfl, rfl⟩ | ⟨b1, b2, rfl, rfl⟩
  all_goals
    obtain ⟨q0, q1, q2, q3, q4, q5, q6, q7, q8, q9⟩ := Hq7.out
    go_wp2_with fail
    refine (HK.out _ HB7.out).mono ?_
    rintro e w8 ⟨rfl, hB⟩
    have HV8 := hid (HV7.out.keep hB)
    have Hq8 := hid (Hq7.out.below hB Hs7.out)
    clear hB q0 q1 q2 q3 q4 q5 q6 q7 q8 q9
    have l8 := HV8.out.1
    obtain ⟨q0, q1, q2, q3, q4, q5, q6, q7, q8, q9⟩ := Hq8.out
    go_wp2_with fail
    refine (cDy.out _).mono ?_
    rintro e w9 ⟨rfl, hB⟩
    have HV9 := hid (HV8.out.keep hB)
    clear hB l8 q0 q1 q2 q3 q4 q5 q6 q7 q8 q9
    go_wp2_with fail
    refine (cL.out _).mono ?_
    rintro e w10 ⟨rfl, hB⟩
    have HV10 := hid (HV9.out.keep hB)
    clear hB
    go_wp2
    go_ret
    exact ⟨rfl, HV10.out.2.2.2.2.2.1⟩
theorem ClauseHas_walk (c : Cl) (t : Int) (o : Cl) (w : World) (hc : c.Ok) (hx : i64B t) (ho : o.Ok) : Calls Try.prog 7 #[clv c, .int .i64 t, clv o] w fun e w' => e = .returned (.bool true) ∧ Below w.heap.size w w' := by
  rcases win_cases t with ⟨hw, h0, h1⟩ | ⟨hw, _⟩
  · exact ClauseHas_yes c t o w hc ho hw h0 h1
  · exact ClauseHas_no c t o w hc ho hw
end Go.Proofs.Ytndfckpcbiecnaa

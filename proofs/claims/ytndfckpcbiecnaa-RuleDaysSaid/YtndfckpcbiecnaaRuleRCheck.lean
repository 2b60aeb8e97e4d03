/-
  feriaref32.Check.
-/
import Derived.Test.YtndfckpcbiecnaaRuleRef2
import Derived.Test.YtndfckpcbiecnaaRuleCheck
import Derived.Deep.RegionHeld3
namespace Go.Proofs.Ytndfckpcbiecnaa
open Go.RowKit
set_option linter.unusedVariables false

abbrev RcS (w : World) (r : Ru) (W : World) : Prop :=
  ((W.cell? ⟨w.heap.size, 0, none⟩ = some (.int .i64 r.st) ∧ W.cell? ⟨w.heap.size, 1, none⟩ = some (.int .i64 r.fq) ∧ W.cell? ⟨w.heap.size, 2, none⟩ = some (.int .i64 r.iv) ∧ W.cell? ⟨w.heap.size, 3, none⟩ = some (.int .i64 r.co) ∧ W.cell? ⟨w.heap.size, 4, none⟩ = some (.int .i64 r.un)) ∧
    W.cell? ⟨w.heap.size, 5, none⟩ = some (.slice r.a5 r.l5.length r.c5) ∧ W.cell? ⟨w.heap.size, 6, none⟩ = some (.slice r.a6 r.l6.length r.c6) ∧ W.cell? ⟨w.heap.size, 7, none⟩ = some (.slice r.a7 r.l7.length r.c7) ∧
    W.cell? ⟨w.heap.size, 8, none⟩ = some (.slice r.a8 r.l8.length r.c8) ∧ W.cell? ⟨w.heap.size, 9, none⟩ = some (.slice r.a9 r.l9.length r.c9) ∧ W.cell? ⟨w.heap.size, 10, none⟩ = some (.slice r.ax r.lx.length r.cx)) ∧
  RuB W w.heap.size r ∧ RuS W r ∧ Below w.heap.size w W ∧ w.heap.size < W.heap.size
theorem RcS.of {w W : World} {r : Ru} (h : RuB W w.heap.size r) (hs : RuS W r) (hb : Below w.heap.size w W) (hl : w.heap.size < W.heap.size) : RcS w r W := ⟨h.all, h, hs, hb, hl⟩
theorem RcS.keep {w W W' : World} {r : Ru} (h : RcS w r W) (hb : Below W.heap.size W W') : RcS w r W' := by
  obtain ⟨-, h1, h2, h3, h4⟩ := h
  exact RcS.of (h1.below hb h4) (h2.below hb) (h3.trans (hb.mono (Nat.le_of_lt h4))) (Nat.lt_of_lt_of_le h4 hb.size)
theorem rcS_new (w : World) (r : Ru) (t : TypeId) (hr : RuS w r) : RcS w r (w.alloc (.cells (ruList r).toArray t)) :=
  RcS.of (ruB_new w r t) (hr.below (below_new (Below.refl _ _) (Nat.le_refl _))) (below_new (Below.refl _ _) (Nat.le_refl _)) (by simp)
theorem firstNZ_drop {L : List Int} {k : Nat} (h : k < L.length) : firstNZ (L.drop k) = if L[k] = 0 then firstNZ (L.drop (k + 1)) else L[k] := by
  rw [List.drop_eq_getElem_cons h, firstNZ]
set_option maxRecDepth 100000 in
set_option maxHeartbeats 12800000 in
theorem RCheck_any (r : Ru) (w : World) (hr : RuS w r) (hm : r.Sm 1000000) : Calls Try.prog 21 #[ruv r] w fun e w' => e = .returned (.int .i64 (checkE r)) ∧ Below w.heap.size w w' := by
  have HS0 := hid ((rcS_new w r 34 hr).keep (Below.refl _ _).drew)
  have HB0 : Hid (Below w.heap.size w (w.alloc (.cells (ruList r).toArray 34))) := below_new (Below.refl _ _) (Nat.le_refl _)
  have cI := hid (fun W => RMIn_any r.st W)
  have cU := hid (fun W => RMIn_any r.un W)
  have k5 := hid (fun W (h : RcS w r W) => RList_of r.a5 r.c5 r.l5 1 12 W (by have := hm.n5; omega) h.2.2.1.s5)
  have kD := hid (fun W (h : RcS w r W) => keep_of' (RefDays_any r W h.2.2.1 hm) (fun _ => h.keep))
  have kW : Hid (unB r.fq = true → ∀ W, RcS w r W → Calls Try.prog 73 #[ruv r] W fun e w' => e = .returned (.int .i64 (weeksE r)) ∧ RcS w r w') := fun hu W h => keep_of' (RefWeeks_any r W h.2.2.1 hm (by simpa only [unB, decide_eq_true_eq] using hu)) (fun _ => h.keep)
  have k8 := hid (fun W (h : RcS w r W) => RList_of r.a8 r.c8 r.l8 0 23 W (by have := hm.n8; omega) h.2.2.1.s8)
  have k9 := hid (fun W (h : RcS w r W) => RList_of r.a9 r.c9 r.l9 0 59 W (by have := hm.n9; omega) h.2.2.1.s9)
  have kx := hid (fun W (h : RcS w r W) => RList_of r.ax r.cx r.lx 0 59 W (by have := hm.nx; omega) h.2.2.1.sx)
  have hq : checkE r = firstNZ (headE r :: [listE 1 12 r.l5, daysE r, weeksE r, listE 0 23 r.l8, listE 0 59 r.l9, listE 0 59 r.lx]) := rfl
  rw [hq]
  have hh := hid (rfl : headE r = headE r)
  obtain ⟨E0, h0⟩ : ∃ q, headE r = q := ⟨_, rfl⟩
  have HE := hid h0
  rw [headE] at HE
  obtain ⟨E1, h1⟩ : ∃ q, listE 1 12 r.l5 = q := ⟨_, rfl⟩
  obtain ⟨E2, h2⟩ : ∃ q, daysE r = q := ⟨_, rfl⟩
  obtain ⟨E3, h3⟩ : ∃ q, weeksE r = q := ⟨_, rfl⟩
  obtain ⟨E4, h4⟩ : ∃ q, listE 0 23 r.l8 = q := ⟨_, rfl⟩
  obtain ⟨E5, h5⟩ : ∃ q, listE 0 59 r.l9 = q := ⟨_, rfl⟩
  obtain ⟨E6, h6⟩ : ∃ q, listE 0 59 r.lx = q := ⟨_, rfl⟩
  rw [h1, h2, h3, h4, h5, h6]
  rw [h1] at k5
  rw [h2] at kD
  rw [h3] at kW
  rw [h4] at k8
  rw [h5] at k9
  rw [h6] at kx
  clear h1 h2 h3 h4 h5 h6
  rw [h0]
  clear h0 hr hm hq hh
  obtain ⟨V, hV⟩ : ∃ V, firstNZ (E0 :: [E1, E2, E3, E4, E5, E6]) = V := ⟨_, rfl⟩
  have HV := hid hV
  rw [firstNZ] at HV
  rw [hV]
  clear hV
  obtain ⟨i, hi⟩ : ∃ q, winB r.st = q := ⟨_, rfl⟩
  obtain ⟨u, hu⟩ : ∃ q, unB r.fq = q := ⟨_, rfl⟩
  obtain ⟨j, hj⟩ : ∃ q, winB r.un = q := ⟨_, rfl⟩
  rw [hi] at cI HE
  have Hu := hid hu
  rw [hu] at kW HE
  rw [hj] at cU HE
  have huE : u = decide (0 ≤ r.fq ∧ r.fq ≤ 6) := by rw [← hu, unB]
  clear hi hu hj
  cases i
  · rw [if_pos rfl] at HE
    have hf : Hid (V = 4) := by show _ = _; rw [← HV.out, ← HE.out]; rfl
    go_enter Try.func21, Try.ntmps21
    go_wp2_with fail
    refine (cI.out _).mono ?_
    rintro e w1 ⟨rfl, rfl⟩
    go_wp2
    go_ret
    exact ⟨by rw [hf.out]; rfl, HB0.out⟩
  rw [if_neg (by simp)] at HE
  by_cases g0 : r.fq < 0
  · rw [if_pos (by rw [huE, decide_eq_false (by omega)])] at HE
    have hf : Hid (V = 4) := by show _ = _; rw [← HV.out, ← HE.out]; rfl
    go_enter Try.func21, Try.ntmps21
    go_wp2_with fail
    refine (cI.out _).mono ?_
    rintro e w1 ⟨rfl, rfl⟩
    go_wp2
    go_ret
    exact ⟨by rw [hf.out]; rfl, HB0.out⟩
  by_cases g1 : 6 < r.fq
  · rw [if_pos (by rw [huE, decide_eq_false (by omega)])] at HE
    have hf : Hid (V = 4) := by show _ = _; rw [← HV.out, ← HE.out]; rfl
    go_enter Try.func21, Try.ntmps21
    go_wp2_with fail
    refine (cI.out _).mono ?_
    rintro e w1 ⟨rfl, rfl⟩
    go_wp2
    go_ret
    exact ⟨by rw [hf.out]; rfl, HB0.out⟩
  obtain rfl : u = true := by rw [huE, decide_eq_true ⟨by omega, by omega⟩]
  clear huE
  rw [if_neg (by simp)] at HE
  by_cases h0 : r.iv < 1
  · rw [if_pos h0] at HE
    have hf : Hid (V = 4) := by show _ = _; rw [← HV.out, ← HE.out]; rfl
    go_enter Try.func21, Try.ntmps21
    go_wp2_with fail
    refine (cI.out _).mono ?_
    rintro e w1 ⟨rfl, rfl⟩
    go_wp2
    go_ret
    exact ⟨by rw [hf.out]; rfl, HB0.out⟩
  rw [if_neg h0] at HE
  by_cases h1 : 1000000000000000 < r.iv
  · rw [if_pos h1] at HE
    have hf : Hid (V = 4) := by show _ = _; rw [← HV.out, ← HE.out]; rfl
    go_enter Try.func21, Try.ntmps21
    go_wp2_with fail
    refine (cI.out _).mono ?_
    rintro e w1 ⟨rfl, rfl⟩
    go_wp2
    go_ret
    exact ⟨by rw [hf.out]; rfl, HB0.out⟩
  rw [if_neg h1] at HE
  by_cases h2 : r.co < 0
  · rw [if_pos h2] at HE
    have hf : Hid (V = 4) := by show _ = _; rw [← HV.out, ← HE.out]; rfl
    go_enter Try.func21, Try.ntmps21
    go_wp2_with fail
    refine (cI.out _).mono ?_
    rintro e w1 ⟨rfl, rfl⟩
    go_wp2
    go_ret
    exact ⟨by rw [hf.out]; rfl, HB0.out⟩
  rw [if_neg h2] at HE
  by_cases h3 : 1000000000000000 < r.co
  · rw [if_pos h3] at HE
    have hf : Hid (V = 4) := by show _ = _; rw [← HV.out, ← HE.out]; rfl
    go_enter Try.func21, Try.ntmps21
    go_wp2_with fail
    refine (cI.out _).mono ?_
    rintro e w1 ⟨rfl, rfl⟩
    go_wp2
    go_ret
    exact ⟨by rw [hf.out]; rfl, HB0.out⟩
  rw [if_neg h3] at HE
  replace kW := hid (kW.out rfl)
  by_cases h4 : r.un = -1
  · rw [if_pos h4] at HE
    have hb : (r.un != -1) = false := by simp [h4]
    clear h4
    go_enter Try.func21, Try.ntmps21
    go_wp2_with fail
    refine (cI.out _).mono ?_
    rintro e w1 ⟨rfl, rfl⟩
    go_wp2_with fail
    refine wp_region_held_drew (S := fun w' => RcS w r w') (by kernel_rfl) ?_ (fun hHeld => ?_)
    · exact HS0.out
    refine wpAnyH_take (i := 0) (v := ?_) rfl (by kernel_rfl) (by kernel_rfl) (by kernel_rfl) (fun _ _ _ h => h) (Or.inl ⟨by rfl, ?_⟩) (by assumption) ?_
    rotate_left
    · intro w hSw; (try dsimp only [RMS] at hSw); go_simp; (try with_reducible rfl)
    (try simp only [Act.put, List.getElem_toArray, List.getElem_cons_zero, List.setIfInBounds_toArray, List.set_cons_zero, List.set_cons_succ])
    refine wpAnyH_take (i := 1) (v := ?_) rfl (by kernel_rfl) (by kernel_rfl) (by kernel_rfl) (fun _ _ _ h => h) (Or.inl ⟨by rfl, ?_⟩) (by assumption) ?_
    rotate_left
    · intro w hSw; (try dsimp only [RMS] at hSw); go_simp; (try with_reducible rfl)
    (try simp only [Act.put, List.getElem_toArray, List.getElem_cons_succ, List.getElem_cons_zero, List.setIfInBounds_toArray, List.set_cons_zero, List.set_cons_succ])
    refine wpAnyH_take (i := 3) (v := ?_) rfl (by kernel_rfl) (by kernel_rfl) (by kernel_rfl) (fun _ _ _ h => h) (Or.inl ⟨by rfl, ?_⟩) (by assumption) ?_
    rotate_left
    · intro w hSw; (try dsimp only [RMS] at hSw); go_simp; (try with_reducible rfl)
    (try simp only [Act.put, List.getElem_toArray, List.getElem_cons_succ, List.getElem_cons_zero, List.setIfInBounds_toArray, List.set_cons_zero, List.set_cons_succ])
    refine wpAnyH_take (i := 5) (v := ?_) rfl (by kernel_rfl) (by kernel_rfl) (by kernel_rfl) (fun _ _ _ h => h) (Or.inl ⟨by rfl, ?_⟩) (by assumption) ?_
    rotate_left
    · intro w hSw; (try dsimp only [RMS] at hSw); go_simp; (try with_reducible rfl)
    (try simp only [Act.put, List.getElem_toArray, List.getElem_cons_succ, List.getElem_cons_zero, List.setIfInBounds_toArray, List.set_cons_zero, List.set_cons_succ])
    refine wpAnyH_take (i := 7) (v := ?_) rfl (by kernel_rfl) (by kernel_rfl) (by kernel_rfl) (fun _ _ _ h => h) (Or.inl ⟨by rfl, ?_⟩) (by assumption) ?_
    rotate_left
    · intro w hSw; (try dsimp only [RMS] at hSw); go_simp; (try with_reducible rfl)
    (try simp only [Act.put, List.getElem_toArray, List.getElem_cons_succ, List.getElem_cons_zero, List.setIfInBounds_toArray, List.set_cons_zero, List.set_cons_succ])
    refine wpAnyH_take (i := 8) (v := ?_) rfl (by kernel_rfl) (by kernel_rfl) (by kernel_rfl) (fun _ _ _ h => h) (Or.inl ⟨by rfl, ?_⟩) (by assumption) ?_
    rotate_left
    · intro w hSw; (try dsimp only [RMS] at hSw); go_simp; (try with_reducible rfl)
    (try simp only [Act.put, List.getElem_toArray, List.getElem_cons_succ, List.getElem_cons_zero, List.setIfInBounds_toArray, List.set_cons_zero, List.set_cons_succ])
    refine wpAnyH_take (i := 10) (v := ?_) rfl (by kernel_rfl) (by kernel_rfl) (by kernel_rfl) (fun _ _ _ h => h) (Or.inl ⟨by rfl, ?_⟩) (by assumption) ?_
    rotate_left
    · intro w hSw; (try dsimp only [RMS] at hSw); go_simp; (try with_reducible rfl)
    (try simp only [Act.put, List.getElem_toArray, List.getElem_cons_succ, List.getElem_cons_zero, List.setIfInBounds_toArray, List.set_cons_zero, List.set_cons_succ])
    refine wpAnyH_take (i := 11) (v := ?_) rfl (by kernel_rfl) (by kernel_rfl) (by kernel_rfl) (fun _ _ _ h => h) (Or.inl ⟨by rfl, ?_⟩) (by assumption) ?_
    rotate_left
    · intro w hSw; (try dsimp only [RMS] at hSw); go_simp; (try with_reducible rfl)
    (try simp only [Act.put, List.getElem_toArray, List.getElem_cons_succ, List.getElem_cons_zero, List.setIfInBounds_toArray, List.set_cons_zero, List.set_cons_succ])
    refine wpAnyH_take (i := 13) (v := ?_) rfl (by kernel_rfl) (by kernel_rfl) (by kernel_rfl) (fun _ _ _ h => h) (Or.inl ⟨by rfl, ?_⟩) (by assumption) ?_
    rotate_left
    · intro w hSw; (try dsimp only [RMS] at hSw); go_simp; (try with_reducible rfl)
    (try simp only [Act.put, List.getElem_toArray, List.getElem_cons_succ, List.getElem_cons_zero, List.setIfInBounds_toArray, List.set_cons_zero, List.set_cons_succ])
    refine wpAnyH_take (i := 14) (v := ?_) rfl (by kernel_rfl) (by kernel_rfl) (by kernel_rfl) (fun _ _ _ h => h) (Or.inl ⟨by rfl, ?_⟩) (by assumption) ?_
    rotate_left
    · intro w hSw; (try dsimp only [RMS] at hSw); go_simp; (try with_reducible rfl)
    (try simp only [Act.put, List.getElem_toArray, List.getElem_cons_succ, List.getElem_cons_zero, List.setIfInBounds_toArray, List.set_cons_zero, List.set_cons_succ])
    refine wpAnyH_ready (rs := [2]) (by kernel_rfl) (by simp) ?_
    refine AllReadyH.cons rfl (fun K hK => ?_) AllReadyH.nil
    go_simp
    refine (k5.out _ (by assumption)).mono ?_; rintro e wr ⟨rfl, rfl⟩
    (try go_wp2_with fail)
    refine hK.out _ _ (by assumption) (fun hHeld => ?_)
    clear hK K
    (try simp only [Act.put, List.getElem_toArray, List.getElem_cons_succ, List.getElem_cons_zero, List.setIfInBounds_toArray, List.set_cons_zero, List.set_cons_succ])
    refine wpAnyH_ready (rs := [4]) (by kernel_rfl) (by simp) ?_
    refine AllReadyH.cons rfl (fun K hK => ?_) AllReadyH.nil
    go_simp
    refine (kD.out _ (by assumption)).mono ?_; rintro e wr ⟨rfl, hS⟩
    (try go_wp2_with fail)
    refine hK.out _ _ (by assumption) (fun hHeld => ?_)
    clear hK K
    (try simp only [Act.put, List.getElem_toArray, List.getElem_cons_succ, List.getElem_cons_zero, List.setIfInBounds_toArray, List.set_cons_zero, List.set_cons_succ])
    refine wpAnyH_ready (rs := [6]) (by kernel_rfl) (by simp) ?_
    refine AllReadyH.cons rfl (fun K hK => ?_) AllReadyH.nil
    go_simp
    refine (kW.out _ (by assumption)).mono ?_; rintro e wr ⟨rfl, hS⟩
    (try go_wp2_with fail)
    refine hK.out _ _ (by assumption) (fun hHeld => ?_)
    clear hK K
    (try simp only [Act.put, List.getElem_toArray, List.getElem_cons_succ, List.getElem_cons_zero, List.setIfInBounds_toArray, List.set_cons_zero, List.set_cons_succ])
    refine wpAnyH_ready (rs := [9]) (by kernel_rfl) (by simp) ?_
    refine AllReadyH.cons rfl (fun K hK => ?_) AllReadyH.nil
    go_simp
    refine (k8.out _ (by assumption)).mono ?_; rintro e wr ⟨rfl, rfl⟩
    (try go_wp2_with fail)
    refine hK.out _ _ (by assumption) (fun hHeld => ?_)
    clear hK K
    (try simp only [Act.put, List.getElem_toArray, List.getElem_cons_succ, List.getElem_cons_zero, List.setIfInBounds_toArray, List.set_cons_zero, List.set_cons_succ])
    refine wpAnyH_ready (rs := [12]) (by kernel_rfl) (by simp) ?_
    refine AllReadyH.cons rfl (fun K hK => ?_) AllReadyH.nil
    go_simp
    refine (k9.out _ (by assumption)).mono ?_; rintro e wr ⟨rfl, rfl⟩
    (try go_wp2_with fail)
    refine hK.out _ _ (by assumption) (fun hHeld => ?_)
    clear hK K
    (try simp only [Act.put, List.getElem_toArray, List.getElem_cons_succ, List.getElem_cons_zero, List.setIfInBounds_toArray, List.set_cons_zero, List.set_cons_succ])
    refine wpAnyH_ready (rs := [15]) (by kernel_rfl) (by simp) ?_
    refine AllReadyH.cons rfl (fun K hK => ?_) AllReadyH.nil
    go_simp
    refine (kx.out _ (by assumption)).mono ?_; rintro e wr ⟨rfl, rfl⟩
    (try go_wp2_with fail)
    refine hK.out _ _ (by assumption) (fun hHeld => ?_)
    clear hK K
    (try simp only [Act.put, List.getElem_toArray, List.getElem_cons_succ, List.getElem_cons_zero, List.setIfInBounds_toArray, List.set_cons_zero, List.set_cons_succ])
    refine wpAnyH_ready (rs := [16]) (by kernel_rfl) (by simp) ?_
    refine AllReadyH.cons rfl (fun K hK => ?_) AllReadyH.nil
    go_simp
    refine hK.out _ _ (RcS.keep (by assumption) (below_new (o := .cells #[.int .i64 E1, .int .i64 E2, .int .i64 E3, .int .i64 E4, .int .i64 E5, .int .i64 E6] 3) (Below.refl wr.heap.size wr) (Nat.le_refl _))) (fun hHeld => ?_)
    clear hK K
    (try simp only [Act.put, List.getElem_toArray, List.getElem_cons_succ, List.getElem_cons_zero, List.setIfInBounds_toArray, List.set_cons_zero, List.set_cons_succ])
    refine wpAnyH_take (i := 17) (v := ?_) rfl (by kernel_rfl) (by kernel_rfl) (by kernel_rfl) (fun _ _ _ h => h) (Or.inl ⟨by rfl, ?_⟩) (by assumption) ?_
    rotate_left
    · intro w hSw; (try dsimp only [RMS] at hSw); go_simp; (try with_reducible rfl)
    (try simp only [Act.put, List.getElem_toArray, List.getElem_cons_succ, List.getElem_cons_zero, List.setIfInBounds_toArray, List.set_cons_zero, List.set_cons_succ])
    refine wpAnyH_done (by kernel_rfl) ?_ _
    have hsl := hid (sl_range (range_new wr (ints [E1, E2, E3, E4, E5, E6]) 3) (by simp))
    have HC : Hid (RcS w r (wr.alloc (.cells (ints [E1, E2, E3, E4, E5, E6]).toArray 3))) := by show RcS w r _; assumption
    have hfz : Hid (V = firstNZ [E1, E2, E3, E4, E5, E6]) := by show _ = _; rw [← HV.out, ← HE.out]; rfl
    obtain ⟨L, hL⟩ : ∃ L, [E1, E2, E3, E4, E5, E6] = L := ⟨_, rfl⟩
    have hL6 : L.length = 6 := by rw [← hL]; rfl
    have HLc : Hid ((Obj.cells #[.int .i64 E1, .int .i64 E2, .int .i64 E3, .int .i64 E4, .int .i64 E5, .int .i64 E6] 3) = .cells (ints L).toArray 3) := by rw [← hL]; rfl
    rw [hL] at hsl HC hfz
    rw [HLc.out]
    obtain ⟨b, hb⟩ : ∃ b, wr.heap.size = b := ⟨_, rfl⟩
    obtain ⟨W1, hW1⟩ : ∃ W1, wr.alloc (.cells (ints L).toArray 3) = W1 := ⟨_, rfl⟩
    rw [hb] at hsl ⊢
    rw [hW1] at hsl HC ⊢
    clear hb hW1 hL HLc HV HE
    go_wp2_with fail
    go_loopw [4] (fun i wr => ∃ k : Nat, i = .int .i64 k ∧ k ≤ 6 ∧ Hid (V = firstNZ (L.drop k)) ∧ wr = W1) (fun i _ => 6 - (intOf i).toNat)
    case atStart => exact ⟨0, rfl, by omega, hfz, by trivial⟩
    case round =>
      obtain ⟨k, rfl, hk, hI, rfl⟩ := hrel
      by_cases hlt : k < 6
      · have hltL : k < L.length := by omega
        obtain ⟨b', off', hbb, hb', hc⟩ := hsl.out.atInt hltL
        cases hbb
        have e1 := hc k hltL
        have hdr := hid (firstNZ_drop hltL)
        obtain ⟨y, hy⟩ : ∃ y, L[k] = y := ⟨_, rfl⟩
        rw [hy] at e1 hdr
        rw [Nat.zero_add] at e1
        have hlt6 : (k : Int) < 6 := by omega
        clear hc hy
        by_cases hz : y = 0
        · have hb2 : (y != 0) = false := by simp [hz]
          have hf : Hid (V = firstNZ (L.drop (k + 1))) := by show _ = _; rw [hI.out, hdr.out, if_pos hz]
          clear hz hL6 hltL
          go_wp2
          exact ⟨⟨k + 1, by go_num, by omega, hf, by trivial⟩, by simp [intOf]; omega⟩
        · have hb2 : (y != 0) = true := by simp [hz]
          have hf : Hid (V = y) := by show _ = _; rw [hI.out, hdr.out, if_neg hz]
          clear hz hL6 hltL
          go_wp2
          go_ret
          exact ⟨by rw [hf.out]; rfl, HC.out.2.2.2.1⟩
      · obtain rfl : k = 6 := by omega
        have hf : Hid (V = 0) := by show _ = _; rw [hI.out, List.drop_of_length_le (by omega)]; rfl
        clear hL6
        go_wp2
        go_ret
        exact ⟨by rw [hf.out]; rfl, HC.out.2.2.2.1⟩
  rw [if_neg h4] at HE
  have hb : (r.un != -1) = true := by simp [h4]
  clear h4
  cases j
  · rw [if_pos rfl] at HE
    have hf : Hid (V = 4) := by show _ = _; rw [← HV.out, ← HE.out]; rfl
    go_enter Try.func21, Try.ntmps21
    go_wp2_with fail
    refine (cI.out _).mono ?_
    rintro e w1 ⟨rfl, rfl⟩
    go_wp2_with fail
    refine (cU.out _).mono ?_
    rintro e w2 ⟨rfl, rfl⟩
    go_wp2
    go_ret
    exact ⟨by rw [hf.out]; rfl, HB0.out⟩
  rw [if_neg (by simp)] at HE
  by_cases h5 : 0 < r.co
  · rw [if_pos h5] at HE
    have hf : Hid (V = 12) := by show _ = _; rw [← HV.out, ← HE.out]; rfl
    go_enter Try.func21, Try.ntmps21
    go_wp2_with fail
    refine (cI.out _).mono ?_
    rintro e w1 ⟨rfl, rfl⟩
    go_wp2_with fail
    refine (cU.out _).mono ?_
    rintro e w2 ⟨rfl, rfl⟩
    go_wp2
    go_ret
    exact ⟨by rw [hf.out]; rfl, HB0.out⟩
  rw [if_neg h5] at HE
  go_enter Try.func21, Try.ntmps21
  go_wp2_with fail
  refine (cI.out _).mono ?_
  rintro e w1 ⟨rfl, rfl⟩
  go_wp2_with fail
  refine (cU.out _).mono ?_
  rintro e w2 ⟨rfl, rfl⟩
  go_wp2_with fail
  refine wp_region_held_drew (S := fun w' => RcS w r w') (by kernel_rfl) ?_ (fun hHeld => ?_)
  · exact HS0.out
  refine wpAnyH_take (i := 0) (v := ?_) rfl (by kernel_rfl) (by kernel_rfl) (by kernel_rfl) (fun _ _ _ h => h) (Or.inl ⟨by rfl, ?_⟩) (by assumption) ?_
  rotate_left
  · intro w hSw; (try dsimp only [RMS] at hSw); go_simp; (try with_reducible rfl)
  (try simp only [Act.put, List.getElem_toArray, List.getElem_cons_zero, List.setIfInBounds_toArray, List.set_cons_zero, List.set_cons_succ])
  refine wpAnyH_take (i := 1) (v := ?_) rfl (by kernel_rfl) (by kernel_rfl) (by kernel_rfl) (fun _ _ _ h => h) (Or.inl ⟨by rfl, ?_⟩) (by assumption) ?_
  rotate_left
  · intro w hSw; (try dsimp only [RMS] at hSw); go_simp; (try with_reducible rfl)
  (try simp only [Act.put, List.getElem_toArray, List.getElem_cons_succ, List.getElem_cons_zero, List.setIfInBounds_toArray, List.set_cons_zero, List.set_cons_succ])
  refine wpAnyH_take (i := 3) (v := ?_) rfl (by kernel_rfl) (by kernel_rfl) (by kernel_rfl) (fun _ _ _ h => h) (Or.inl ⟨by rfl, ?_⟩) (by assumption) ?_
  rotate_left
  · intro w hSw; (try dsimp only [RMS] at hSw); go_simp; (try with_reducible rfl)
  (try simp only [Act.put, List.getElem_toArray, List.getElem_cons_succ, List.getElem_cons_zero, List.setIfInBounds_toArray, List.set_cons_zero, List.set_cons_succ])
  refine wpAnyH_take (i := 5) (v := ?_) rfl (by kernel_rfl) (by kernel_rfl) (by kernel_rfl) (fun _ _ _ h => h) (Or.inl ⟨by rfl, ?_⟩) (by assumption) ?_
  rotate_left
  · intro w hSw; (try dsimp only [RMS] at hSw); go_simp; (try with_reducible rfl)
  (try simp only [Act.put, List.getElem_toArray, List.getElem_cons_succ, List.getElem_cons_zero, List.setIfInBounds_toArray, List.set_cons_zero, List.set_cons_succ])
  refine wpAnyH_take (i := 7) (v := ?_) rfl (by kernel_rfl) (by kernel_rfl) (by kernel_rfl) (fun _ _ _ h => h) (Or.inl ⟨by rfl, ?_⟩) (by assumption) ?_
  rotate_left
  · intro w hSw; (try dsimp only [RMS] at hSw); go_simp; (try with_reducible rfl)
  (try simp only [Act.put, List.getElem_toArray, List.getElem_cons_succ, List.getElem_cons_zero, List.setIfInBounds_toArray, List.set_cons_zero, List.set_cons_succ])
  refine wpAnyH_take (i := 8) (v := ?_) rfl (by kernel_rfl) (by kernel_rfl) (by kernel_rfl) (fun _ _ _ h => h) (Or.inl ⟨by rfl, ?_⟩) (by assumption) ?_
  rotate_left
  · intro w hSw; (try dsimp only [RMS] at hSw); go_simp; (try with_reducible rfl)
  (try simp only [Act.put, List.getElem_toArray, List.getElem_cons_succ, List.getElem_cons_zero, List.setIfInBounds_toArray, List.set_cons_zero, List.set_cons_succ])
  refine wpAnyH_take (i := 10) (v := ?_) rfl (by kernel_rfl) (by kernel_rfl) (by kernel_rfl) (fun _ _ _ h => h) (Or.inl ⟨by rfl, ?_⟩) (by assumption) ?_
  rotate_left
  · intro w hSw; (try dsimp only [RMS] at hSw); go_simp; (try with_reducible rfl)
  (try simp only [Act.put, List.getElem_toArray, List.getElem_cons_succ, List.getElem_cons_zero, List.setIfInBounds_toArray, List.set_cons_zero, List.set_cons_succ])
  refine wpAnyH_take (i := 11) (v := ?_) rfl (by kernel_rfl) (by kernel_rfl) (by kernel_rfl) (fun _ _ _ h => h) (Or.inl ⟨by rfl, ?_⟩) (by assumption) ?_
  rotate_left
  · intro w hSw; (try dsimp only [RMS] at hSw); go_simp; (try with_reducible rfl)
  (try simp only [Act.put, List.getElem_toArray, List.getElem_cons_succ, List.getElem_cons_zero, List.setIfInBounds_toArray, List.set_cons_zero, List.set_cons_succ])
  refine wpAnyH_take (i := 13) (v := ?_) rfl (by kernel_rfl) (by kernel_rfl) (by kernel_rfl) (fun _ _ _ h => h) (Or.inl ⟨by rfl, ?_⟩) (by assumption) ?_
  rotate_left
  · intro w hSw; (try dsimp only [RMS] at hSw); go_simp; (try with_reducible rfl)
  (try simp only [Act.put, List.getElem_toArray, List.getElem_cons_succ, List.getElem_cons_zero, List.setIfInBounds_toArray, List.set_cons_zero, List.set_cons_succ])
  refine wpAnyH_take (i := 14) (v := ?_) rfl (by kernel_rfl) (by kernel_rfl) (by kernel_rfl) (fun _ _ _ h => h) (Or.inl ⟨by rfl, ?_⟩) (by assumption) ?_
  rotate_left
  · intro w hSw; (try dsimp only [RMS] at hSw); go_simp; (try with_reducible rfl)
  (try simp only [Act.put, List.getElem_toArray, List.getElem_cons_succ, List.getElem_cons_zero, List.setIfInBounds_toArray, List.set_cons_zero, List.set_cons_succ])
  refine wpAnyH_ready (rs := [2]) (by kernel_rfl) (by simp) ?_
  refine AllReadyH.cons rfl (fun K hK => ?_) AllReadyH.nil
  go_simp
  refine (k5.out _ (by assumption)).mono ?_; rintro e wr ⟨rfl, rfl⟩
  (try go_wp2_with fail)
  refine hK.out _ _ (by assumption) (fun hHeld => ?_)
  clear hK K
  (try simp only [Act.put, List.getElem_toArray, List.getElem_cons_succ, List.getElem_cons_zero, List.setIfInBounds_toArray, List.set_cons_zero, List.set_cons_succ])
  refine wpAnyH_ready (rs := [4]) (by kernel_rfl) (by simp) ?_
  refine AllReadyH.cons rfl (fun K hK => ?_) AllReadyH.nil
  go_simp
  refine (kD.out _ (by assumption)).mono ?_; rintro e wr ⟨rfl, hS⟩
  (try go_wp2_with fail)
  refine hK.out _ _ (by assumption) (fun hHeld => ?_)
  clear hK K
  (try simp only [Act.put, List.getElem_toArray, List.getElem_cons_succ, List.getElem_cons_zero, List.setIfInBounds_toArray, List.set_cons_zero, List.set_cons_succ])
  refine wpAnyH_ready (rs := [6]) (by kernel_rfl) (by simp) ?_
  refine AllReadyH.cons rfl (fun K hK => ?_) AllReadyH.nil
  go_simp
  refine (kW.out _ (by assumption)).mono ?_; rintro e wr ⟨rfl, hS⟩
  (try go_wp2_with fail)
  refine hK.out _ _ (by assumption) (fun hHeld => ?_)
  clear hK K
  (try simp only [Act.put, List.getElem_toArray, List.getElem_cons_succ, List.getElem_cons_zero, List.setIfInBounds_toArray, List.set_cons_zero, List.set_cons_succ])
  refine wpAnyH_ready (rs := [9]) (by kernel_rfl) (by simp) ?_
  refine AllReadyH.cons rfl (fun K hK => ?_) AllReadyH.nil
  go_simp
  refine (k8.out _ (by assumption)).mono ?_; rintro e wr ⟨rfl, rfl⟩
  (try go_wp2_with fail)
  refine hK.out _ _ (by assumption) (fun hHeld => ?_)
  clear hK K
  (try simp only [Act.put, List.getElem_toArray, List.getElem_cons_succ, List.getElem_cons_zero, List.setIfInBounds_toArray, List.set_cons_zero, List.set_cons_succ])
  refine wpAnyH_ready (rs := [12]) (by kernel_rfl) (by simp) ?_
  refine AllReadyH.cons rfl (fun K hK => ?_) AllReadyH.nil
  go_simp
  refine (k9.out _ (by assumption)).mono ?_; rintro e wr ⟨rfl, rfl⟩
  (try go_wp2_with fail)
  refine hK.out _ _ (by assumption) (fun hHeld => ?_)
  clear hK K
  (try simp only [Act.put, List.getElem_toArray, List.getElem_cons_succ, List.getElem_cons_zero, List.setIfInBounds_toArray, List.set_cons_zero, List.set_cons_succ])
  refine wpAnyH_ready (rs := [15]) (by kernel_rfl) (by simp) ?_
  refine AllReadyH.cons rfl (fun K hK => ?_) AllReadyH.nil
  go_simp
  refine (kx.out _ (by assumption)).mono ?_; rintro e wr ⟨rfl, rfl⟩
  (try go_wp2_with fail)
  refine hK.out _ _ (by assumption) (fun hHeld => ?_)
  clear hK K
  (try simp only [Act.put, List.getElem_toArray, List.getElem_cons_succ, List.getElem_cons_zero, List.setIfInBounds_toArray, List.set_cons_zero, List.set_cons_succ])
  refine wpAnyH_ready (rs := [16]) (by kernel_rfl) (by simp) ?_
  refine AllReadyH.cons rfl (fun K hK => ?_) AllReadyH.nil
  go_simp
  refine hK.out _ _ (RcS.keep (by assumption) (below_new (o := .cells #[.int .i64 E1, .int .i64 E2, .int .i64 E3, .int .i64 E4, .int .i64 E5, .int .i64 E6] 3) (Below.refl wr.heap.size wr) (Nat.le_refl _))) (fun hHeld => ?_)
  clear hK K
  (try simp only [Act.put, List.getElem_toArray, List.getElem_cons_succ, List.getElem_cons_zero, List.setIfInBounds_toArray, List.set_cons_zero, List.set_cons_succ])
  refine wpAnyH_take (i := 17) (v := ?_) rfl (by kernel_rfl) (by kernel_rfl) (by kernel_rfl) (fun _ _ _ h => h) (Or.inl ⟨by rfl, ?_⟩) (by assumption) ?_
  rotate_left
  · intro w hSw; (try dsimp only [RMS] at hSw); go_simp; (try with_reducible rfl)
  (try simp only [Act.put, List.getElem_toArray, List.getElem_cons_succ, List.getElem_cons_zero, List.setIfInBounds_toArray, List.set_cons_zero, List.set_cons_succ])
  refine wpAnyH_done (by kernel_rfl) ?_ _
  have hsl := hid (sl_range (range_new wr (ints [E1, E2, E3, E4, E5, E6]) 3) (by simp))
  have HC : Hid (RcS w r (wr.alloc (.cells (ints [E1, E2, E3, E4, E5, E6]).toArray 3))) := by show RcS w r _; assumption
  have hfz : Hid (V = firstNZ [E1, E2, E3, E4, E5, E6]) := by show _ = _; rw [← HV.out, ← HE.out]; rfl
  obtain ⟨L, hL⟩ : ∃ L, [E1, E2, E3, E4, E5, E6] = L := ⟨_, rfl⟩
  have hL6 : L.length = 6 := by rw [← hL]; rfl
  have HLc : Hid ((Obj.cells #[.int .i64 E1, .int .i64 E2, .int .i64 E3, .int .i64 E4, .int .i64 E5, .int .i64 E6] 3) = .cells (ints L).toArray 3) := by rw [← hL]; rfl
  rw [hL] at hsl HC hfz
  rw [HLc.out]
  obtain ⟨b, hb⟩ : ∃ b, wr.heap.size = b := ⟨_, rfl⟩
  obtain ⟨W1, hW1⟩ : ∃ W1, wr.alloc (.cells (ints L).toArray 3) = W1 := ⟨_, rfl⟩
  rw [hb] at hsl ⊢
  rw [hW1] at hsl HC ⊢
  clear hb hW1 hL HLc HV HE
  go_wp2_with fail
  go_loopw [4] (fun i wr => ∃ k : Nat, i = .int .i64 k ∧ k ≤ 6 ∧ Hid (V = firstNZ (L.drop k)) ∧ wr = W1) (fun i _ => 6 - (intOf i).toNat)
  case atStart => exact ⟨0, rfl, by omega, hfz, by trivial⟩
  case round =>
    obtain ⟨k, rfl, hk, hI, rfl⟩ := hrel
    by_cases hlt : k < 6
    · have hltL : k < L.length := by omega
      obtain ⟨b', off', hbb, hb', hc⟩ := hsl.out.atInt hltL
      cases hbb
      have e1 := hc k hltL
      have hdr := hid (firstNZ_drop hltL)
      obtain ⟨y, hy⟩ : ∃ y, L[k] = y := ⟨_, rfl⟩
      rw [hy] at e1 hdr
      rw [Nat.zero_add] at e1
      have hlt6 : (k : Int) < 6 := by omega
      clear hc hy
      by_cases hz : y = 0
      · have hb2 : (y != 0) = false := by simp [hz]
        have hf : Hid (V = firstNZ (L.drop (k + 1))) := by show _ = _; rw [hI.out, hdr.out, if_pos hz]
        clear hz hL6 hltL
        go_wp2
        exact ⟨⟨k + 1, by go_num, by omega, hf, by trivial⟩, by simp [intOf]; omega⟩
      · have hb2 : (y != 0) = true := by simp [hz]
        have hf : Hid (V = y) := by show _ = _; rw [hI.out, hdr.out, if_neg hz]
        clear hz hL6 hltL
        go_wp2
        go_ret
        exact ⟨by rw [hf.out]; rfl, HC.out.2.2.2.1⟩
    · obtain rfl : k = 6 := by omega
      have hf : Hid (V = 0) := by show _ = _; rw [hI.out, List.drop_of_length_le (by omega)]; rfl
      clear hL6
      go_wp2
      go_ret
      exact ⟨by rw [hf.out]; rfl, HC.out.2.2.2.1⟩
end Go.Proofs.Ytndfckpcbiecnaa

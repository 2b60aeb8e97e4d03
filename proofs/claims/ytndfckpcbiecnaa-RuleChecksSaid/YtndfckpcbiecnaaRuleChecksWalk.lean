/-
  ferialaw32.RuleChecks answers true.
-/
import Derived.Test.YtndfckpcbiecnaaRuleLives
import Derived.Deep.RegionHeld3
namespace Go.Proofs.Ytndfckpcbiecnaa
open Go.RowKit
set_option linter.unusedVariables false

theorem plain_all (l : List (Int × Int)) : (!outB 0 0 (l.map (·.1))) = l.all (fun x => x.1 == 0) := by
  rw [Bool.eq_iff_iff, Bool.not_eq_true', outB, ← Bool.not_eq_true, List.any_eq_true, List.all_eq_true]
  constructor
  · intro h x hx
    have : ¬ outP 0 0 x.1 = true := fun e => h ⟨x.1, List.mem_map_of_mem hx, e⟩
    simp only [outP, Bool.or_eq_true, decide_eq_true_eq] at this
    rw [beq_iff_eq]; omega
  · rintro h ⟨y, hy, e⟩
    obtain ⟨x, hx, rfl⟩ := List.mem_map.1 hy
    have := h x hx
    rw [beq_iff_eq] at this
    simp only [outP, Bool.or_eq_true, decide_eq_true_eq] at e
    omega
theorem all_snoc (p : Int × Int → Bool) {l : List (Int × Int)} {k : Nat} {y : Int × Int} (ht : l.take (k + 1) = l.take k ++ [y]) : (l.take (k + 1)).all p = ((l.take k).all p && p y) := by
  rw [ht, List.all_append, List.all_cons, List.all_nil, Bool.and_true]
set_option maxRecDepth 100000 in
set_option maxHeartbeats 12800000 in
theorem RuleChecks_walk (r s : Ru) (w : World) (hr : RuS w r) (hs : RuS w s) (hm : r.Sm 281474976710656) (hm' : s.Sm 281474976710656) (hn : r.Num) (hn' : s.Num) :
    Calls Try.prog 4 #[ruv r, ruv s] w fun e w' => e = .returned (.bool true) ∧ Below w.heap.size w w' := by
  have HF0 := hid (saF_new w r s 34 hr hs)
  have cG := hid (fun W => Great_any r W hm)
  have cG' := hid (fun W => Great_any s W hm')
  have cL := hid (fun W => Lives32_any W)
  by_cases hg : greatB r = true
  · rw [hg] at cG
    clear hg hr hs hm hm' hn hn'
    go_enter Try.func4, Try.ntmps4
    go_wp2_with fail
    refine (cG.out _).mono ?_
    rintro e w1 ⟨rfl, hB1⟩
    have HF1 := hid (HF0.out.keep hB1)
    clear hB1
    go_wp2_with fail
    refine (cL.out _).mono ?_
    rintro e w2 ⟨rfl, hB2⟩
    have HF2 := hid (HF1.out.keep hB2)
    clear hB2
    go_wp2
    go_ret
    exact ⟨rfl, HF2.out.be⟩
  have hg0 : greatB r = false := by simpa using hg
  rw [hg0] at cG
  by_cases hg' : greatB s = true
  · rw [hg'] at cG'
    clear hg hg0 hg' hr hs hm hm' hn hn'
    go_enter Try.func4, Try.ntmps4
    go_wp2_with fail
    refine (cG.out _).mono ?_
    rintro e w1 ⟨rfl, hB1⟩
    have HF1 := hid (HF0.out.keep hB1)
    obtain ⟨⟨⟨k0, k1, k2, k3, k4⟩, k5, k6, k7, k8, k9, kx⟩, ⟨⟨q0, q1, q2, q3, q4⟩, q5, q6, q7, q8, q9, qx⟩⟩ := HF1.out.sas.1
    clear hB1
    go_wp2_with fail
    refine (cG'.out _).mono ?_
    rintro e w2 ⟨rfl, hB2⟩
    have HF2 := hid (HF1.out.keep hB2)
    clear hB2
    go_wp2_with fail
    refine (cL.out _).mono ?_
    rintro e w3 ⟨rfl, hB3⟩
    have HF3 := hid (HF2.out.keep hB3)
    clear hB3
    go_wp2
    go_ret
    exact ⟨rfl, HF3.out.be⟩
  have hg0' : greatB s = false := by simpa using hg'
  rw [hg0'] at cG'
  have m0 := great_sm hg0
  have m0' := great_sm hg0'
  have sm : r.Sm 1000000 := ⟨by have := m0.n5; omega, by have := m0.n6; omega, by have := m0.n7; omega, by have := m0.n8; omega, by have := m0.n9; omega, by have := m0.nx; omega⟩
  have sm' : s.Sm 1000000 := ⟨by have := m0'.n5; omega, by have := m0'.n6; omega, by have := m0'.n7; omega, by have := m0'.n8; omega, by have := m0'.n9; omega, by have := m0'.nx; omega⟩
  have kC := hid (fun W (h : SaS w r s W) => keep_of' (Check_any r W h.2.s1 sm) (fun _ => h.keep))
  have kR := hid (fun W (h : SaS w r s W) => keep_of' (RCheck_any r W h.2.s1 sm) (fun _ => h.keep))
  have kP := hid (fun W (h : SaS w r s W) => keep_of' (Plain_any r W h.2.s1 sm.n7) (fun _ => h.keep))
  have kS := hid (fun W (h : SaS w r s W) => keep_of' (RuSame_any r s W h.2.s1 h.2.s2 sm sm' hn hn') (fun _ => h.keep))
  have kT := hid (fun W (h : SaS w r s W) => keep_of' (RSame_any r s W h.2.s1 h.2.s2 sm sm') (fun _ => h.keep))
  have kU := hid (fun W (h : SaS w r s W) => keep_of' (RuSame_any r r W h.2.s1 h.2.s1 sm sm hn hn) (fun _ => h.keep))
  have kL := hid (fun W (h : SaS w r s W) => keep_of' (Lives32_any W) (fun _ => h.keep))
  rw [sameB_self] at kU
  rw [plain_all] at kP
  obtain ⟨E, hE⟩ : ∃ E, checkE r = E := ⟨_, rfl⟩
  rw [hE] at kC kR
  obtain ⟨q, hq⟩ : ∃ q, sameB r s = q := ⟨_, rfl⟩
  rw [hq] at kS kT
  have h7I : (r.l7.length : Int) ≤ 600 := by have := m0.n7; omega
  clear hE hq hg hg0 hg' hg0' hr hs hm hm' hn hn' m0 m0' sm sm'
  go_enter Try.func4, Try.ntmps4
  go_wp2_with fail
  refine (cG.out _).mono ?_
  rintro e w1 ⟨rfl, hB1⟩
  have HF1 := hid (HF0.out.keep hB1)
  obtain ⟨⟨⟨k0, k1, k2, k3, k4⟩, k5, k6, k7, k8, k9, kx⟩, ⟨⟨q0, q1, q2, q3, q4⟩, q5, q6, q7, q8, q9, qx⟩⟩ := HF1.out.sas.1
  clear hB1
  go_wp2_with fail
  refine (cG'.out _).mono ?_
  rintro e w2 ⟨rfl, hB2⟩
  have HF2 := hid (HF1.out.keep hB2)
  clear hB2 k0 k1 k2 k3 k4 k5 k6 k7 k8 k9 kx q0 q1 q2 q3 q4 q5 q6 q7 q8 q9 qx
  go_wp2_with fail
  go_loopw [5, 6] (fun v i wr => ∃ k : Nat, i = .int .i64 k ∧ k ≤ r.l7.length ∧ v = .bool ((r.l7.take k).all (fun x => x.1 == 0)) ∧ wr = w2) (fun _ i _ => r.l7.length - (intOf i).toNat)
  case atStart => exact ⟨0, rfl, by omega, rfl, by trivial⟩
  case round =>
    obtain ⟨k, rfl, hk, rfl, rfl⟩ := hrel
    obtain ⟨⟨-, k5, k6, k7, k8, k9, kx⟩, -⟩ := HF2.out.sas.1
    by_cases hlt : k < r.l7.length
    · obtain ⟨d, o, ha, hb, hc⟩ := HF2.out.s1.s7.atNth hlt
      have e1 := (hc k hlt).1
      have ht := hid (take_snoc r.l7 k hlt)
      have hall := hid (all_snoc (fun x => x.1 == 0) ht.out)
      obtain ⟨⟨y1, y2⟩, hy⟩ : ∃ q, r.l7[k] = q := ⟨_, rfl⟩
      rw [hy] at e1 ht hall
      rw [ha] at k7
      obtain ⟨p, hp⟩ : ∃ p, (r.l7.take k).all (fun x => x.1 == 0) = p := ⟨_, rfl⟩
      rw [hp] at hall ⊢
      obtain ⟨z, hz⟩ : ∃ z, (y1 == 0) = z := ⟨_, rfl⟩
      have hall2 : Hid ((r.l7.take (k + 1)).all (fun x => x.1 == 0) = (p && z)) := by show _ = _; rw [hall.out]; exact congrArg _ hz
      clear hc hy ha hp hall
      cases p
      · go_wp2
        exact ⟨⟨k + 1, by go_num, by omega, by rw [hall2.out]; rfl, by trivial⟩, by simp [intOf]; omega⟩
      · go_wp2
        exact ⟨⟨k + 1, by go_num, by omega, by rw [hall2.out, ← hz]; rfl, by trivial⟩, by simp [intOf]; omega⟩
    · have hke : r.l7.take k = r.l7 := List.take_of_length_le (by omega)
      rw [hke]
      clear hke
      obtain ⟨p, hp⟩ : ∃ p, r.l7.all (fun x => x.1 == 0) = p := ⟨_, rfl⟩
      rw [hp] at kP ⊢
      have HS0 := hid (HF2.out.sas.keep (Below.refl _ _).drew)
      clear hp
      go_wp2_with fail
      refine wp_region_held_drew (S := fun w' => SaS w r s w') (by kernel_rfl) HS0.out (fun hHeld => ?_)
      refine wpAnyH_take (i := 0) (v := ?_) rfl (by kernel_rfl) (by kernel_rfl) (by kernel_rfl) (fun _ _ _ h => h) (Or.inl ⟨by rfl, ?_⟩) (by assumption) ?_
      rotate_left
      · intro w hSw; (try dsimp only [RMS] at hSw); go_simp; (try with_reducible rfl)
      (try simp only [Act.put, List.getElem_toArray, List.getElem_cons_zero, List.setIfInBounds_toArray, List.set_cons_zero, List.set_cons_succ])
      refine wpAnyH_take (i := 2) (v := ?_) rfl (by kernel_rfl) (by kernel_rfl) (by kernel_rfl) (fun _ _ _ h => h) (Or.inl ⟨by rfl, ?_⟩) (by assumption) ?_
      rotate_left
      · intro w hSw; (try dsimp only [RMS] at hSw); go_simp; (try with_reducible rfl)
      (try simp only [Act.put, List.getElem_toArray, List.getElem_cons_succ, List.getElem_cons_zero, List.setIfInBounds_toArray, List.set_cons_zero, List.set_cons_succ])
      refine wpAnyH_ready (rs := [1]) (by kernel_rfl) (by simp) ?_
      refine AllReadyH.cons rfl (fun K hK => ?_) AllReadyH.nil
      go_simp
      refine (kC.out _ (by assumption)).mono ?_; rintro e wr ⟨rfl, hS⟩
      (try go_wp2_with fail)
      refine hK.out _ _ (by assumption) (fun hHeld => ?_)
      clear hK K
      (try simp only [Act.put, List.getElem_toArray, List.getElem_cons_succ, List.getElem_cons_zero, List.setIfInBounds_toArray, List.set_cons_zero, List.set_cons_succ])
      refine wpAnyH_ready (rs := [3]) (by kernel_rfl) (by simp) ?_
      refine AllReadyH.cons rfl (fun K hK => ?_) AllReadyH.nil
      go_simp
      refine (kR.out _ (by assumption)).mono ?_; rintro e wr ⟨rfl, hS⟩
      (try go_wp2_with fail)
      refine hK.out _ _ (by assumption) (fun hHeld => ?_)
      clear hK K
      (try simp only [Act.put, List.getElem_toArray, List.getElem_cons_succ, List.getElem_cons_zero, List.setIfInBounds_toArray, List.set_cons_zero, List.set_cons_succ])
      refine wpAnyH_take (i := 4) (v := ?_) rfl (by kernel_rfl) (by kernel_rfl) (by kernel_rfl) (fun _ _ _ h => h) (Or.inl ⟨by rfl, ?_⟩) (by assumption) ?_
      rotate_left
      · intro w hSw; (try dsimp only [RMS] at hSw); go_simp; (try with_reducible rfl)
      (try simp only [Act.put, List.getElem_toArray, List.getElem_cons_succ, List.getElem_cons_zero, List.setIfInBounds_toArray, List.set_cons_zero, List.set_cons_succ])
      refine wpAnyH_take (i := 5) (v := ?_) rfl (by kernel_rfl) (by kernel_rfl) (by kernel_rfl) (fun _ _ _ h => h) (Or.inl ⟨by rfl, ?_⟩) (by assumption) ?_
      rotate_left
      · intro w hSw; (try dsimp only [RMS] at hSw); go_simp; (try with_reducible rfl)
      (try simp only [Act.put, List.getElem_toArray, List.getElem_cons_succ, List.getElem_cons_zero, List.setIfInBounds_toArray, List.set_cons_zero, List.set_cons_succ])
      refine wpAnyH_take (i := 6) (v := ?_) rfl (by kernel_rfl) (by kernel_rfl) (by kernel_rfl) (fun _ _ _ h => h) (Or.inl ⟨by rfl, ?_⟩) (by assumption) ?_
      rotate_left
      · intro w hSw; (try dsimp only [RMS] at hSw); go_simp; (try with_reducible rfl)
      (try simp only [Act.put, List.getElem_toArray, List.getElem_cons_succ, List.getElem_cons_zero, List.setIfInBounds_toArray, List.set_cons_zero, List.set_cons_succ])
      refine wpAnyH_take (i := 8) (v := ?_) rfl (by kernel_rfl) (by kernel_rfl) (by kernel_rfl) (fun _ _ _ h => h) (Or.inl ⟨by rfl, ?_⟩) (by assumption) ?_
      rotate_left
      · intro w hSw; (try dsimp only [RMS] at hSw); go_simp; (try with_reducible rfl)
      (try simp only [Act.put, List.getElem_toArray, List.getElem_cons_succ, List.getElem_cons_zero, List.setIfInBounds_toArray, List.set_cons_zero, List.set_cons_succ])
      refine wpAnyH_ready (rs := [7]) (by kernel_rfl) (by simp) ?_
      refine AllReadyH.cons rfl (fun K hK => ?_) AllReadyH.nil
      go_simp
      refine (kP.out _ (by assumption)).mono ?_; rintro e wr ⟨rfl, hS⟩
      (try go_wp2_with fail)
      refine hK.out _ _ (by assumption) (fun hHeld => ?_)
      clear hK K
      (try simp only [Act.put, List.getElem_toArray, List.getElem_cons_succ, List.getElem_cons_zero, List.setIfInBounds_toArray, List.set_cons_zero, List.set_cons_succ])
      refine wpAnyH_take (i := 9) (v := ?_) rfl (by kernel_rfl) (by kernel_rfl) (by kernel_rfl) (fun _ _ _ h => h) (Or.inl ⟨by rfl, ?_⟩) (by assumption) ?_
      rotate_left
      · intro w hSw; (try dsimp only [RMS] at hSw); go_simp; (try with_reducible rfl)
      (try simp only [Act.put, List.getElem_toArray, List.getElem_cons_succ, List.getElem_cons_zero, List.setIfInBounds_toArray, List.set_cons_zero, List.set_cons_succ])
      refine wpAnyH_take (i := 10) (v := ?_) rfl (by kernel_rfl) (by kernel_rfl) (by kernel_rfl) (fun _ _ _ h => h) (Or.inl ⟨by rfl, ?_⟩) (by assumption) ?_
      rotate_left
      · intro w hSw; (try dsimp only [RMS] at hSw); go_simp; (try with_reducible rfl)
      (try simp only [Act.put, List.getElem_toArray, List.getElem_cons_succ, List.getElem_cons_zero, List.setIfInBounds_toArray, List.set_cons_zero, List.set_cons_succ])
      refine wpAnyH_take (i := 11) (v := ?_) rfl (by kernel_rfl) (by kernel_rfl) (by kernel_rfl) (fun _ _ _ h => h) (Or.inl ⟨by rfl, ?_⟩) (by assumption) ?_
      rotate_left
      · intro w hSw; (try dsimp only [RMS] at hSw); go_simp; (try with_reducible rfl)
      (try simp only [Act.put, List.getElem_toArray, List.getElem_cons_succ, List.getElem_cons_zero, List.setIfInBounds_toArray, List.set_cons_zero, List.set_cons_succ])
      refine wpAnyH_take (i := 12) (v := ?_) rfl (by kernel_rfl) (by kernel_rfl) (by kernel_rfl) (fun _ _ _ h => h) (Or.inl ⟨by rfl, ?_⟩) (by assumption) ?_
      rotate_left
      · intro w hSw; (try dsimp only [RMS] at hSw); go_simp; (try with_reducible rfl)
      (try simp only [Act.put, List.getElem_toArray, List.getElem_cons_succ, List.getElem_cons_zero, List.setIfInBounds_toArray, List.set_cons_zero, List.set_cons_succ])
      refine wpAnyH_take (i := 13) (v := ?_) rfl (by kernel_rfl) (by kernel_rfl) (by kernel_rfl) (fun _ _ _ h => h) (Or.inl ⟨by rfl, ?_⟩) (by assumption) ?_
      rotate_left
      · intro w hSw; (try dsimp only [RMS] at hSw); go_simp; (try with_reducible rfl)
      (try simp only [Act.put, List.getElem_toArray, List.getElem_cons_succ, List.getElem_cons_zero, List.setIfInBounds_toArray, List.set_cons_zero, List.set_cons_succ])
      refine wpAnyH_take (i := 15) (v := ?_) rfl (by kernel_rfl) (by kernel_rfl) (by kernel_rfl) (fun _ _ _ h => h) (Or.inl ⟨by rfl, ?_⟩) (by assumption) ?_
      rotate_left
      · intro w hSw; (try dsimp only [RMS] at hSw); go_simp; (try with_reducible rfl)
      (try simp only [Act.put, List.getElem_toArray, List.getElem_cons_succ, List.getElem_cons_zero, List.setIfInBounds_toArray, List.set_cons_zero, List.set_cons_succ])
      refine wpAnyH_take (i := 16) (v := ?_) rfl (by kernel_rfl) (by kernel_rfl) (by kernel_rfl) (fun _ _ _ h => h) (Or.inl ⟨by rfl, ?_⟩) (by assumption) ?_
      rotate_left
      · intro w hSw; (try dsimp only [RMS] at hSw); go_simp; (try with_reducible rfl)
      (try simp only [Act.put, List.getElem_toArray, List.getElem_cons_succ, List.getElem_cons_zero, List.setIfInBounds_toArray, List.set_cons_zero, List.set_cons_succ])
      refine wpAnyH_ready (rs := [14]) (by kernel_rfl) (by simp) ?_
      refine AllReadyH.cons rfl (fun K hK => ?_) AllReadyH.nil
      go_simp
      refine (kS.out _ (by assumption)).mono ?_; rintro e wr ⟨rfl, hS⟩
      (try go_wp2_with fail)
      refine hK.out _ _ (by assumption) (fun hHeld => ?_)
      clear hK K
      (try simp only [Act.put, List.getElem_toArray, List.getElem_cons_succ, List.getElem_cons_zero, List.setIfInBounds_toArray, List.set_cons_zero, List.set_cons_succ])
      refine wpAnyH_ready (rs := [17]) (by kernel_rfl) (by simp) ?_
      refine AllReadyH.cons rfl (fun K hK => ?_) AllReadyH.nil
      go_simp
      refine (kT.out _ (by assumption)).mono ?_; rintro e wr ⟨rfl, hS⟩
      (try go_wp2_with fail)
      refine hK.out _ _ (by assumption) (fun hHeld => ?_)
      clear hK K
      (try simp only [Act.put, List.getElem_toArray, List.getElem_cons_succ, List.getElem_cons_zero, List.setIfInBounds_toArray, List.set_cons_zero, List.set_cons_succ])
      refine wpAnyH_take (i := 18) (v := ?_) rfl (by kernel_rfl) (by kernel_rfl) (by kernel_rfl) (fun _ _ _ h => h) (Or.inl ⟨by rfl, ?_⟩) (by assumption) ?_
      rotate_left
      · intro w hSw; (try dsimp only [RMS] at hSw); go_simp; (try with_reducible rfl)
      (try simp only [Act.put, List.getElem_toArray, List.getElem_cons_succ, List.getElem_cons_zero, List.setIfInBounds_toArray, List.set_cons_zero, List.set_cons_succ])
      refine wpAnyH_take (i := 19) (v := ?_) rfl (by kernel_rfl) (by kernel_rfl) (by kernel_rfl) (fun _ _ _ h => h) (Or.inl ⟨by rfl, ?_⟩) (by assumption) ?_
      rotate_left
      · intro w hSw; (try dsimp only [RMS] at hSw); go_simp; (try with_reducible rfl)
      (try simp only [Act.put, List.getElem_toArray, List.getElem_cons_succ, List.getElem_cons_zero, List.setIfInBounds_toArray, List.set_cons_zero, List.set_cons_succ])
      refine wpAnyH_take (i := 20) (v := ?_) rfl (by kernel_rfl) (by kernel_rfl) (by kernel_rfl) (fun _ _ _ h => h) (Or.inl ⟨by rfl, ?_⟩) (by assumption) ?_
      rotate_left
      · intro w hSw; (try dsimp only [RMS] at hSw); go_simp; (try with_reducible rfl)
      (try simp only [Act.put, List.getElem_toArray, List.getElem_cons_succ, List.getElem_cons_zero, List.setIfInBounds_toArray, List.set_cons_zero, List.set_cons_succ])
      refine wpAnyH_take (i := 21) (v := ?_) rfl (by kernel_rfl) (by kernel_rfl) (by kernel_rfl) (fun _ _ _ h => h) (Or.inl ⟨by rfl, ?_⟩) (by assumption) ?_
      rotate_left
      · intro w hSw; (try dsimp only [RMS] at hSw); go_simp; (try with_reducible rfl)
      (try simp only [Act.put, List.getElem_toArray, List.getElem_cons_succ, List.getElem_cons_zero, List.setIfInBounds_toArray, List.set_cons_zero, List.set_cons_succ])
      refine wpAnyH_take (i := 22) (v := ?_) rfl (by kernel_rfl) (by kernel_rfl) (by kernel_rfl) (fun _ _ _ h => h) (Or.inl ⟨by rfl, ?_⟩) (by assumption) ?_
      rotate_left
      · intro w hSw; (try dsimp only [RMS] at hSw); go_simp; (try with_reducible rfl)
      (try simp only [Act.put, List.getElem_toArray, List.getElem_cons_succ, List.getElem_cons_zero, List.setIfInBounds_toArray, List.set_cons_zero, List.set_cons_succ])
      refine wpAnyH_ready (rs := [23]) (by kernel_rfl) (by simp) ?_
      refine AllReadyH.cons rfl (fun K hK => ?_) AllReadyH.nil
      go_simp
      refine (kU.out _ (by assumption)).mono ?_; rintro e wr ⟨rfl, hS⟩
      (try go_wp2_with fail)
      refine hK.out _ _ (by assumption) (fun hHeld => ?_)
      clear hK K
      (try simp only [Act.put, List.getElem_toArray, List.getElem_cons_succ, List.getElem_cons_zero, List.setIfInBounds_toArray, List.set_cons_zero, List.set_cons_succ])
      refine wpAnyH_take (i := 24) (v := ?_) rfl (by kernel_rfl) (by kernel_rfl) (by kernel_rfl) (fun _ _ _ h => h) (Or.inl ⟨by rfl, ?_⟩) (by assumption) ?_
      rotate_left
      · intro w hSw; (try dsimp only [RMS] at hSw); go_simp; (try with_reducible rfl)
      (try simp only [Act.put, List.getElem_toArray, List.getElem_cons_succ, List.getElem_cons_zero, List.setIfInBounds_toArray, List.set_cons_zero, List.set_cons_succ])
      refine wpAnyH_take (i := 25) (v := ?_) rfl (by kernel_rfl) (by kernel_rfl) (by kernel_rfl) (fun _ _ _ h => h) (Or.inl ⟨by rfl, ?_⟩) (by assumption) ?_
      rotate_left
      · intro w hSw; (try dsimp only [RMS] at hSw); go_simp; (try with_reducible rfl)
      (try simp only [Act.put, List.getElem_toArray, List.getElem_cons_succ, List.getElem_cons_zero, List.setIfInBounds_toArray, List.set_cons_zero, List.set_cons_succ])
      refine wpAnyH_ready (rs := [26]) (by kernel_rfl) (by simp) ?_
      refine AllReadyH.cons rfl (fun K hK => ?_) AllReadyH.nil
      go_simp
      refine (kL.out _ (by assumption)).mono ?_; rintro e wr ⟨rfl, hS⟩
      (try go_wp2_with fail)
      refine hK.out _ _ (by assumption) (fun hHeld => ?_)
      clear hK K
      (try simp only [Act.put, List.getElem_toArray, List.getElem_cons_succ, List.getElem_cons_zero, List.setIfInBounds_toArray, List.set_cons_zero, List.set_cons_succ])
      refine wpAnyH_take (i := 27) (v := ?_) rfl (by kernel_rfl) (by kernel_rfl) (by kernel_rfl) (fun _ _ _ h => h) (Or.inl ⟨by rfl, ?_⟩) (by assumption) ?_
      rotate_left
      · intro w hSw; (try dsimp only [RMS] at hSw); go_simp; (try with_reducible rfl)
      (try simp only [Act.put, List.getElem_toArray, List.getElem_cons_succ, List.getElem_cons_zero, List.setIfInBounds_toArray, List.set_cons_zero, List.set_cons_succ])
      refine wpAnyH_take (i := 28) (v := ?_) rfl (by kernel_rfl) (by kernel_rfl) (by kernel_rfl) (fun _ _ _ h => h) (Or.inl ⟨by rfl, ?_⟩) (by assumption) ?_
      rotate_left
      · intro w hSw; (try dsimp only [RMS] at hSw); go_simp; (try with_reducible rfl)
      (try simp only [Act.put, List.getElem_toArray, List.getElem_cons_succ, List.getElem_cons_zero, List.setIfInBounds_toArray, List.set_cons_zero, List.set_cons_succ])
      refine wpAnyH_done (by kernel_rfl) ?_ _
      have HV := hid ‹SaS w r s _›
      go_wp2
      go_ret
      exact ⟨rfl, HV.out.2.be⟩
end Go.Proofs.Ytndfckpcbiecnaa

/-
  ferialaw16.lives: the chapter's example.
  What ferialaw16.LapStates computes: true.
-/
import Derived.Test.YtbfjceegfpddkaaGreatDoorQbc23a7
import Derived.Test.YtbfjceegfpddkaaGreatDoorQf440fd
namespace Go.Proofs.YtbfjceegfpddkaaGreatDoor
open Go.RowKit
set_option linter.unusedVariables false

attribute [local go_sem ↓] storeAt_cl loadAt_cl
attribute [local go_sem] run_storeClS
theorem ClB.setAt1 {W : World} {b i : Nat} {c c' : Cl} {v : Value} (h : ClB W b c) (hi : i < 30) (e : clList c' = (clList c).set i v) : ClB (W.setCell ⟨b, i, none⟩ v) b c' := by
  intro j x hx
  rw [e] at hx
  by_cases hj : j = i
  · subst hj
    have hl : j < (clList c).length := hi
    rw [List.getElem?_set_self hl] at hx
    obtain rfl := Option.some.inj hx
    rw [Nat.zero_add]
    exact World.cell?_setCell_same _ _ _ (h.at j (List.getElem?_eq_getElem hl))
  · rw [List.getElem?_set_ne (Ne.symm hj)] at hx
    rw [World.cell?_setCell_other _ _ _ _ (by intro e; injection e with _ e _; omega)]
    exact h j x hx
def hourCl (F : Cl) : Cl := { F with unit := 2, step := 5 }
theorem hour_ok : (hourCl fullCl).Ok := { full_ok with unit := ⟨by decide, by decide⟩, step := ⟨by decide, by decide⟩ }
theorem hour_state : stG (hourCl fullCl) 1 = stv true 0 86399 1 := by
  have h1 : liveD (hourCl fullCl) 1 = true := by kernel_rfl
  have h2 : stF (hourCl fullCl) 1 = 0 := by kernel_rfl
  have h3 : stU (hourCl fullCl) 1 = 86399 := by kernel_rfl
  have h4 : phaseC (hourCl fullCl) 1 = 1 := by kernel_rfl
  rw [stG, h1, if_pos rfl, h2, h3, h4]
def hourQ (k : Nat) : Bool := decide (k / 3600 % 5 = 1)
theorem hour_sec (k : Nat) (hk : k < 86400) : secQ (hourCl fullCl) true 0 86399 1 k = hourQ k := by
  have h1 := full_has (t := (k : Int)) (win_of (by omega) (by omega))
  have hd : (k : Int) % 86400 = k := by omega
  rw [hasC, hd] at h1
  simp only [Bool.and_eq_true] at h1
  have ht : todIn k ((hourCl fullCl).m 2) ((hourCl fullCl).m 1) ((hourCl fullCl).m 0) = true := h1.2.2.2.1
  have hm : mayC (hourCl fullCl) = true := by kernel_rfl
  have hb : betB 0 86399 k = true := by rw [betB, decide_eq_true (by omega), decide_eq_true (by omega)]; rfl
  have hu : sizeU (hourCl fullCl).unit = 3600 := rfl
  have hs : (hourCl fullCl).step = 5 := rfl
  rw [secQ, ht, hm, hb, okS, hu, hs, if_pos (by decide), hourQ]
  have e : (decide ((1 : Int) ≤ (k : Int) / 3600) && decide (((k : Int) / 3600 - 1) % 5 = 0)) = decide (k / 3600 % 5 = 1) := by
    rw [Bool.eq_iff_iff, Bool.and_eq_true, decide_eq_true_eq, decide_eq_true_eq, decide_eq_true_eq]
    omega
  rw [e]; simp
theorem sel_const_yes {p : Nat → Bool} : ∀ n, (∀ i, i < n → p i = true) → (sel p n).length = n
  | 0, _ => rfl
  | n + 1, h => by rw [sel_yes (h n (by omega)), List.length_append, sel_const_yes n (fun i hi => h i (by omega))]; rfl
theorem hour_len : ∀ h, (sel hourQ (3600 * h)).length = 3600 * ((List.range h).countP fun i => decide (i % 5 = 1))
  | 0 => rfl
  | h + 1 => by
    rw [Nat.mul_succ, sel_add, List.length_append, List.length_map, hour_len h, List.range_succ, List.countP_append, List.countP_singleton]
    have hq : ∀ i, i < 3600 → hourQ (3600 * h + i) = decide (h % 5 = 1) := fun i hi => by
      rw [hourQ, show (3600 * h + i) / 3600 = h by omega]
    by_cases h5 : h % 5 = 1
    · rw [sel_const_yes 3600 (fun i hi => by rw [hq i hi, decide_eq_true h5]), if_pos (by simp [h5])]; omega
    · rw [sel_none (fun i hi => by rw [hq i hi, decide_eq_false h5]), if_neg (by simp [h5])]; simp
theorem hour_count : (secL (secQ (hourCl fullCl) true 0 86399 1)).length = 18000 := by
  rw [secL, sel_congr hour_sec, show 86400 = 3600 * 24 from rfl, hour_len]
  decide
theorem hour_has : (dsecB 3600 && secQ (hourCl fullCl) true 0 86399 1 (3600 : Int).toNat) = true := by
  rw [show (3600 : Int).toNat = 3600 from rfl, hour_sec 3600 (by omega)]; decide
theorem hour_hasnt : (dsecB 0 && secQ (hourCl fullCl) true 0 86399 1 (0 : Int).toNat) = false := by
  rw [show (0 : Int).toNat = 0 from rfl, hour_sec 0 (by omega)]; decide
theorem Four.put4 {W : World} {b : Nat} {v0 v1 v2 v3 : Value} (h : Four W b v0 v1 v2 v3) (x0 x1 x2 x3 : Value) : Four ((((W.setCell ⟨b, 0, none⟩ x0).setCell ⟨b, 1, none⟩ x1).setCell ⟨b, 2, none⟩ x2).setCell ⟨b, 3, none⟩ x3) b x0 x1 x2 x3 := by
  have hr := h.put x0 x1 x2 x3
  have g : ∀ j v, [x0, x1, x2, x3][j]? = some v → ((((W.setCell ⟨b, 0, none⟩ x0).setCell ⟨b, 1, none⟩ x1).setCell ⟨b, 2, none⟩ x2).setCell ⟨b, 3, none⟩ x3).cell? ⟨b, j, none⟩ = some v := fun j v hj => by
    have := hr j v hj
    rwa [Nat.zero_add] at this
  obtain ⟨-, f0, f1, f2, f3⟩ := h
  refine ⟨⟨g 0 _ rfl, g 1 _ rfl, g 2 _ rfl, g 3 _ rfl⟩, ?_, ?_, ?_, ?_⟩ <;> (rw [frozen_set, frozen_set, frozen_set, frozen_set]; assumption)
theorem LvS.apart {w W W' : World} {b bx : Nat} {c : Cl} (h : LvS w b c W) (hlt : b < bx) (hb : Below bx W W') : LvS w b c W' := by
  obtain ⟨_, h2, h3, h4, h5⟩ := h
  exact ⟨(h2.below hb hlt).ld, h2.below hb hlt, h3.trans (hb.mono (by omega)), Nat.lt_of_lt_of_le h4 hb.size, h5⟩
abbrev Ze4 : List Value := [.bool false, .int .i64 0, .int .i64 0, .int .i64 0]
set_option maxRecDepth 100000 in
set_option maxHeartbeats 6400000 in
theorem Lives16_any (w : World) (hT : Tab w) : Calls Tryz.prog 11 #[] w fun e w' => e = .returned (.bool true) ∧ Below w.heap.size w w' := by
  have cR0 := hid (fun W => RFull_any W)
  have cO := hid (fun W => LapOnG_any (hourCl fullCl) 1 W hour_ok (by omega) (by omega))
  have cS := hid (fun W (h : Tab W) => LSeconds_any (hourCl fullCl) true 0 86399 1 W hour_ok h)
  have cH := hid (fun W => RShape_any 1 W (by omega) (by omega))
  rw [hour_state] at cO
  rw [← shq_shF] at cO cH
  obtain ⟨s, hs⟩ : ∃ s, shF 1 = s := ⟨_, rfl⟩
  rw [hs] at cO cH
  clear hs
  rw [shq] at cO cH
  have cL := hid (fun b W h => DLenO_any (some b) (secQ (hourCl fullCl) true 0 86399 1) W h)
  have cA := hid (fun b n W h => DHasO_any (some b) (secQ (hourCl fullCl) true 0 86399 1) n W h)
  rw [hour_count] at cL
  have q1 := hid hour_has
  have q2 := hid hour_hasnt
  have eC : Hid (∀ F : Cl, F = fullCl → clList (hourCl F) = ((clList F).set 25 (.int .i64 2)).set 26 (.int .i64 5)) := fun F _ => rfl
  have HT := hid hT
  obtain ⟨F, hFF⟩ : ∃ F, fullCl = F := ⟨_, rfl⟩
  rw [hFF] at cR0 cO cS cL cA q1 q2
  clear hFF hT
  go_enter Tryz.func11, Tryz.ntmps11
  go_wp2_with fail
  refine (cR0.out _).mono ?_
  rintro e w1 ⟨rfl, hB1⟩
  have HB1 := hid hB1
  clear hB1
  have hth : (w1.alloc (.cells zL.toArray 28)).there w1.heap.size 0 30 := there_new w1 _ _
  have hC0 : ClB (putCl (w1.alloc (.cells zL.toArray 28)) w1.heap.size (clList F)) w1.heap.size F := putCl_range _ rfl hth
  have hBa : Below w1.heap.size w1 (putCl (w1.alloc (.cells zL.toArray 28)) w1.heap.size (clList F)) := putCl_below (below_new (Below.refl _ _) (Nat.le_refl _)) (Nat.le_refl _) _
  have hth2 : (putCl (w1.alloc (.cells zL.toArray 28)) w1.heap.size (clList F)).there w1.heap.size 0 30 := World.there_setCells hth _ _ _
  have h25 := hC0.at 25 rfl
  have h26 := hC0.at 26 rfl
  have f25 : (putCl (w1.alloc (.cells zL.toArray 28)) w1.heap.size (clList F)).frozen? ⟨w1.heap.size, 25, none⟩ = false := by simpa using (hth2 25 (by omega)).2
  have f26 : (putCl (w1.alloc (.cells zL.toArray 28)) w1.heap.size (clList F)).frozen? ⟨w1.heap.size, 26, none⟩ = false := by simpa using (hth2 26 (by omega)).2
  have hsz : w1.heap.size < (putCl (w1.alloc (.cells zL.toArray 28)) w1.heap.size (clList F)).heap.size := by
    have := (World.keptBut_setCells w1.heap.size (may := fun _ => True) (clList F) 0 (w1.alloc (.cells zL.toArray 28)) (fun _ _ => trivial)).size
    rw [World.size_alloc] at this
    exact this
  have hC5 : ClB (((putCl (w1.alloc (.cells zL.toArray 28)) w1.heap.size (clList F)).setCell ⟨w1.heap.size, 25, none⟩ (.int .i64 2)).setCell ⟨w1.heap.size, 26, none⟩ (.int .i64 5)) w1.heap.size (hourCl F) :=
    (hC0.setAt1 (i := 25) (c' := { F with unit := 2 }) (by omega) rfl).setAt1 (i := 26) (by omega) rfl
  have hbs : Below w1.heap.size w1 (((putCl (w1.alloc (.cells zL.toArray 28)) w1.heap.size (clList F)).setCell ⟨w1.heap.size, 25, none⟩ (.int .i64 2)).setCell ⟨w1.heap.size, 26, none⟩ (.int .i64 5)) := below_set (below_set hBa (Nat.le_refl _)) (Nat.le_refl _)
  have HS0 : Hid (LvS w w1.heap.size (hourCl F) (((putCl (w1.alloc (.cells zL.toArray 28)) w1.heap.size (clList F)).setCell ⟨w1.heap.size, 25, none⟩ (.int .i64 2)).setCell ⟨w1.heap.size, 26, none⟩ (.int .i64 5))) :=
    ⟨hC5.ld, hC5, HB1.out.trans (hbs.mono HB1.out.size), by rw [World.size_setCell, World.size_setCell]; exact hsz, HB1.out.size⟩
  obtain ⟨C, hC⟩ : ∃ C, hourCl F = C := ⟨_, rfl⟩
  rw [hC] at HS0 cO cS cL cA q1 q2
  clear hC0 hBa hth2 hbs hC hsz hC5 eC
  go_upto_region 4 with fail
  obtain ⟨W4, hW4⟩ : ∃ W, ((putCl (w1.alloc (.cells zL.toArray 28)) w1.heap.size (clList F)).setCell ⟨w1.heap.size, 25, none⟩ (.int .i64 2)).setCell ⟨w1.heap.size, 26, none⟩ (.int .i64 5) = W := ⟨_, rfl⟩
  rw [hW4] at HS0 ⊢
  clear hth h25 h26 f25 f26 hW4
  go_cut [2] from 7 to 9 (fun x2 wx => ∃ bx : Nat, x2 = .pointer (some ⟨bx, 0, none⟩) ∧ Hid (LvS w w1.heap.size C wx ∧ Four wx bx (.bool true) (.int .i64 0) (.int .i64 86399) (.int .i64 1) ∧ bx < wx.heap.size))
  case first =>
    refine wp_then ?_
    refine wp_region_held_drew (S := fun w' => LvS w w1.heap.size C w') (by kernel_rfl) (HS0.out.keep (Below.refl _ _).drew) (fun hHeld => ?_)
    refine wpAnyH_take (i := 0) (v := ?_) rfl (by kernel_rfl) (by kernel_rfl) (by kernel_rfl) (fun _ _ _ h => h) (Or.inl ⟨by rfl, ?_⟩) (by assumption) ?_
    rotate_left
    · intro w hSw; go_simp; (try with_reducible rfl)
    (try simp only [Act.put, List.getElem_toArray, List.getElem_cons_zero, List.setIfInBounds_toArray, List.set_cons_zero, List.set_cons_succ])
    refine wpAnyH_ready (rs := [1, 3]) (by kernel_rfl) (by simp) ?_
    refine AllReadyH.cons rfl (fun K hK => ?_) (AllReadyH.cons rfl (fun K hK => ?_) AllReadyH.nil)
    · go_simp
      refine (cH.out _).mono ?_
      rintro e wa ⟨rfl, hB⟩
      have hS := LvS.keep hHeld hB
      clear hB
      (try go_wp2_with fail)
      refine hK.out _ _ hS (fun hHeld => ?_)
      clear hK K
      (try simp only [Act.put, List.getElem_toArray, List.getElem_cons_succ, List.getElem_cons_zero, List.setIfInBounds_toArray, List.set_cons_zero, List.set_cons_succ])
      refine wpAnyH_ready (rs := [2, 3]) (by kernel_rfl) (by simp) ?_
      refine AllReadyH.cons rfl (fun K hK => ?_) (AllReadyH.cons rfl (fun K hK => ?_) AllReadyH.nil)
      · go_simp
        refine (cO.out _).mono ?_
        rintro e wb ⟨rfl, hB⟩
        have hS := LvS.keep hHeld hB
        clear hB
        (try go_wp2_with fail)
        refine hK.out _ _ hS (fun hHeld => ?_)
        clear hK K
        (try simp only [Act.put, List.getElem_toArray, List.getElem_cons_succ, List.getElem_cons_zero, List.setIfInBounds_toArray, List.set_cons_zero, List.set_cons_succ])
        refine wpAnyH_ready (rs := [3]) (by kernel_rfl) (by simp) ?_
        refine AllReadyH.cons rfl (fun K hK => ?_) AllReadyH.nil
        · go_simp
          have hB := below_new (o := (.cells #[.bool false, .int .i64 0, .int .i64 0, .int .i64 0] 36)) (Below.refl wb.heap.size wb) (Nat.le_refl _)
          have HX : Hid (Four (wb.alloc (.cells #[.bool false, .int .i64 0, .int .i64 0, .int .i64 0] 36)) wb.heap.size (.bool false) (.int .i64 0) (.int .i64 0) (.int .i64 0) ∧ w1.heap.size < wb.heap.size ∧ wb.heap.size < (wb.alloc (.cells #[.bool false, .int .i64 0, .int .i64 0, .int .i64 0] 36)).heap.size) := ⟨four_new wb _ _ _ _ _, hHeld.2.2.2.1, by simp⟩
          have hS := LvS.keep hHeld hB
          clear hB
          (try go_wp2_with fail)
          refine hK.out _ _ hS (fun hHeld => ?_)
          clear hK K
          (try simp only [Act.put, List.getElem_toArray, List.getElem_cons_succ, List.getElem_cons_zero, List.setIfInBounds_toArray, List.set_cons_zero, List.set_cons_succ])
          obtain ⟨X, hX⟩ : ∃ X, (wb.alloc (.cells #[.bool false, .int .i64 0, .int .i64 0, .int .i64 0] 36)) = X := ⟨_, rfl⟩
          rw [hX] at hHeld HX ⊢
          obtain ⟨bx, hbx⟩ : ∃ b, wb.heap.size = b := ⟨_, rfl⟩
          rw [hbx] at HX
          (try rw [hbx])
          have HL1 := HX.out.2.1
          have HL2 := HX.out.2.2
          obtain ⟨⟨a0, a1, a2, a3⟩, f0, f1, f2, f3⟩ := HX.out.1
          refine wpAnyH_ready (rs := [4]) (by kernel_rfl) (by simp) ?_
          refine AllReadyH.cons rfl (fun K hK => ?_) AllReadyH.nil
          go_simp
          (try go_wp2_with fail)
          have hb4 : Below bx X ((((X.setCell ⟨bx, 0, none⟩ (.bool true)).setCell ⟨bx, 1, none⟩ (.int .i64 0)).setCell ⟨bx, 2, none⟩ (.int .i64 86399)).setCell ⟨bx, 3, none⟩ (.int .i64 1)) := below_set (below_set (below_set (below_set (Below.refl _ _) (Nat.le_refl _)) (Nat.le_refl _)) (Nat.le_refl _)) (Nat.le_refl _)
          have hS4 := LvS.apart hHeld HL1 hb4
          refine hK.out _ _ hS4 (fun hHeld => ?_)
          clear hK K
          (try simp only [Act.put, List.getElem_toArray, List.getElem_cons_succ, List.getElem_cons_zero, List.setIfInBounds_toArray, List.set_cons_zero, List.set_cons_succ])
          refine wpAnyH_done (by kernel_rfl) ?_ _
          have HF := hid (HX.out.1.put4 (.bool true) (.int .i64 0) (.int .i64 86399) (.int .i64 1))
          have HS4 := hid hS4
          have HL4 : Hid (bx < ((((X.setCell ⟨bx, 0, none⟩ (.bool true)).setCell ⟨bx, 1, none⟩ (.int .i64 0)).setCell ⟨bx, 2, none⟩ (.int .i64 86399)).setCell ⟨bx, 3, none⟩ (.int .i64 1)).heap.size) := Nat.lt_of_lt_of_le HL2 hb4.size
          clear hHeld hS4 a0 a1 a2 a3 f0 f1 f2 f3 hb4
          go_wp2_with fail
          go_meet
          exact ⟨bx, rfl, HS4.out, HF.out, HL4.out⟩
      · go_simp
        have hB := below_new (o := (.cells #[.bool false, .int .i64 0, .int .i64 0, .int .i64 0] 36)) (Below.refl wa.heap.size wa) (Nat.le_refl _)
        have HX : Hid (Four (wa.alloc (.cells #[.bool false, .int .i64 0, .int .i64 0, .int .i64 0] 36)) wa.heap.size (.bool false) (.int .i64 0) (.int .i64 0) (.int .i64 0) ∧ w1.heap.size < wa.heap.size ∧ wa.heap.size < (wa.alloc (.cells #[.bool false, .int .i64 0, .int .i64 0, .int .i64 0] 36)).heap.size) := ⟨four_new wa _ _ _ _ _, hHeld.2.2.2.1, by simp⟩
        have hS := LvS.keep hHeld hB
        clear hB
        (try go_wp2_with fail)
        refine hK.out _ _ hS (fun hHeld => ?_)
        clear hK K
        (try simp only [Act.put, List.getElem_toArray, List.getElem_cons_succ, List.getElem_cons_zero, List.setIfInBounds_toArray, List.set_cons_zero, List.set_cons_succ])
        refine wpAnyH_ready (rs := [2]) (by kernel_rfl) (by simp) ?_
        refine AllReadyH.cons rfl (fun K hK => ?_) AllReadyH.nil
        · go_simp
          refine (cO.out _).mono ?_
          rintro e wb ⟨rfl, hB⟩
          have HX := hid (And.intro (HX.out.1.below hB HX.out.2.2) (And.intro HX.out.2.1 (Nat.lt_of_lt_of_le HX.out.2.2 hB.size)))
          have hS := LvS.keep hHeld hB
          clear hB
          (try go_wp2_with fail)
          refine hK.out _ _ hS (fun hHeld => ?_)
          clear hK K
          (try simp only [Act.put, List.getElem_toArray, List.getElem_cons_succ, List.getElem_cons_zero, List.setIfInBounds_toArray, List.set_cons_zero, List.set_cons_succ])
          obtain ⟨X, hX⟩ : ∃ X, wb = X := ⟨_, rfl⟩
          rw [hX] at hHeld HX ⊢
          obtain ⟨bx, hbx⟩ : ∃ b, wa.heap.size = b := ⟨_, rfl⟩
          rw [hbx] at HX
          (try rw [hbx])
          have HL1 := HX.out.2.1
          have HL2 := HX.out.2.2
          obtain ⟨⟨a0, a1, a2, a3⟩, f0, f1, f2, f3⟩ := HX.out.1
          refine wpAnyH_ready (rs := [4]) (by kernel_rfl) (by simp) ?_
          refine AllReadyH.cons rfl (fun K hK => ?_) AllReadyH.nil
          go_simp
          (try go_wp2_with fail)
          have hb4 : Below bx X ((((X.setCell ⟨bx, 0, none⟩ (.bool true)).setCell ⟨bx, 1, none⟩ (.int .i64 0)).setCell ⟨bx, 2, none⟩ (.int .i64 86399)).setCell ⟨bx, 3, none⟩ (.int .i64 1)) := below_set (below_set (below_set (below_set (Below.refl _ _) (Nat.le_refl _)) (Nat.le_refl _)) (Nat.le_refl _)) (Nat.le_refl _)
          have hS4 := LvS.apart hHeld HL1 hb4
          refine hK.out _ _ hS4 (fun hHeld => ?_)
          clear hK K
          (try simp only [Act.put, List.getElem_toArray, List.getElem_cons_succ, List.getElem_cons_zero, List.setIfInBounds_toArray, List.set_cons_zero, List.set_cons_succ])
          refine wpAnyH_done (by kernel_rfl) ?_ _
          have HF := hid (HX.out.1.put4 (.bool true) (.int .i64 0) (.int .i64 86399) (.int .i64 1))
          have HS4 := hid hS4
          have HL4 : Hid (bx < ((((X.setCell ⟨bx, 0, none⟩ (.bool true)).setCell ⟨bx, 1, none⟩ (.int .i64 0)).setCell ⟨bx, 2, none⟩ (.int .i64 86399)).setCell ⟨bx, 3, none⟩ (.int .i64 1)).heap.size) := Nat.lt_of_lt_of_le HL2 hb4.size
          clear hHeld hS4 a0 a1 a2 a3 f0 f1 f2 f3 hb4
          go_wp2_with fail
          go_meet
          exact ⟨bx, rfl, HS4.out, HF.out, HL4.out⟩
    · go_simp
      have hB := below_new (o := (.cells #[.bool false, .int .i64 0, .int .i64 0, .int .i64 0] 36)) (Below.refl W4.drew.heap.size W4.drew) (Nat.le_refl _)
      have HX : Hid (Four (W4.drew.alloc (.cells #[.bool false, .int .i64 0, .int .i64 0, .int .i64 0] 36)) W4.drew.heap.size (.bool false) (.int .i64 0) (.int .i64 0) (.int .i64 0) ∧ w1.heap.size < W4.drew.heap.size ∧ W4.drew.heap.size < (W4.drew.alloc (.cells #[.bool false, .int .i64 0, .int .i64 0, .int .i64 0] 36)).heap.size) := ⟨four_new W4.drew _ _ _ _ _, hHeld.2.2.2.1, by simp⟩
      have hS := LvS.keep hHeld hB
      clear hB
      (try go_wp2_with fail)
      refine hK.out _ _ hS (fun hHeld => ?_)
      clear hK K
      (try simp only [Act.put, List.getElem_toArray, List.getElem_cons_succ, List.getElem_cons_zero, List.setIfInBounds_toArray, List.set_cons_zero, List.set_cons_succ])
      refine wpAnyH_ready (rs := [1]) (by kernel_rfl) (by simp) ?_
      refine AllReadyH.cons rfl (fun K hK => ?_) AllReadyH.nil
      · go_simp
        refine (cH.out _).mono ?_
        rintro e wa ⟨rfl, hB⟩
        have HX := hid (And.intro (HX.out.1.below hB HX.out.2.2) (And.intro HX.out.2.1 (Nat.lt_of_lt_of_le HX.out.2.2 hB.size)))
        have hS := LvS.keep hHeld hB
        clear hB
        (try go_wp2_with fail)
        refine hK.out _ _ hS (fun hHeld => ?_)
        clear hK K
        (try simp only [Act.put, List.getElem_toArray, List.getElem_cons_succ, List.getElem_cons_zero, List.setIfInBounds_toArray, List.set_cons_zero, List.set_cons_succ])
        refine wpAnyH_ready (rs := [2]) (by kernel_rfl) (by simp) ?_
        refine AllReadyH.cons rfl (fun K hK => ?_) AllReadyH.nil
        · go_simp
          refine (cO.out _).mono ?_
          rintro e wb ⟨rfl, hB⟩
          have HX := hid (And.intro (HX.out.1.below hB HX.out.2.2) (And.intro HX.out.2.1 (Nat.lt_of_lt_of_le HX.out.2.2 hB.size)))
          have hS := LvS.keep hHeld hB
          clear hB
          (try go_wp2_with fail)
          refine hK.out _ _ hS (fun hHeld => ?_)
          clear hK K
          (try simp only [Act.put, List.getElem_toArray, List.getElem_cons_succ, List.getElem_cons_zero, List.setIfInBounds_toArray, List.set_cons_zero, List.set_cons_succ])
          obtain ⟨X, hX⟩ : ∃ X, wb = X := ⟨_, rfl⟩
          rw [hX] at hHeld HX ⊢
          obtain ⟨bx, hbx⟩ : ∃ b, W4.drew.heap.size = b := ⟨_, rfl⟩
          rw [hbx] at HX
          (try simp only [World.size_drew] at hbx)
          (try rw [hbx])
          have HL1 := HX.out.2.1
          have HL2 := HX.out.2.2
          obtain ⟨⟨a0, a1, a2, a3⟩, f0, f1, f2, f3⟩ := HX.out.1
          refine wpAnyH_ready (rs := [4]) (by kernel_rfl) (by simp) ?_
          refine AllReadyH.cons rfl (fun K hK => ?_) AllReadyH.nil
          go_simp
          (try go_wp2_with fail)
          have hb4 : Below bx X ((((X.setCell ⟨bx, 0, none⟩ (.bool true)).setCell ⟨bx, 1, none⟩ (.int .i64 0)).setCell ⟨bx, 2, none⟩ (.int .i64 86399)).setCell ⟨bx, 3, none⟩ (.int .i64 1)) := below_set (below_set (below_set (below_set (Below.refl _ _) (Nat.le_refl _)) (Nat.le_refl _)) (Nat.le_refl _)) (Nat.le_refl _)
          have hS4 := LvS.apart hHeld HL1 hb4
          refine hK.out _ _ hS4 (fun hHeld => ?_)
          clear hK K
          (try simp only [Act.put, List.getElem_toArray, List.getElem_cons_succ, List.getElem_cons_zero, List.setIfInBounds_toArray, List.set_cons_zero, List.set_cons_succ])
          refine wpAnyH_done (by kernel_rfl) ?_ _
          have HF := hid (HX.out.1.put4 (.bool true) (.int .i64 0) (.int .i64 86399) (.int .i64 1))
          have HS4 := hid hS4
          have HL4 : Hid (bx < ((((X.setCell ⟨bx, 0, none⟩ (.bool true)).setCell ⟨bx, 1, none⟩ (.int .i64 0)).setCell ⟨bx, 2, none⟩ (.int .i64 86399)).setCell ⟨bx, 3, none⟩ (.int .i64 1)).heap.size) := Nat.lt_of_lt_of_le HL2 hb4.size
          clear hHeld hS4 a0 a1 a2 a3 f0 f1 f2 f3 hb4
          go_wp2_with fail
          go_meet
          exact ⟨bx, rfl, HS4.out, HF.out, HL4.out⟩
  case rest =>
    obtain ⟨bx, rfl, hR⟩ := hcut
    have HS := hid hR.1
    have HX := hid hR.2.1
    have HL := hid hR.2.2
    clear hR HS0
    have gl := HS.out.1
    obtain ⟨⟨x0, x1, x2, x3⟩, -⟩ := HX.out
    go_wp2_with fail
    refine (cS.out _ (HT.out.later HS.out.2.2.1)).mono ?_
    rintro e w5 ⟨bd, rfl, hle, hD, hB5⟩
    have HD := hid hD
    have HX5 := hid (HX.out.below hB5 HL.out)
    have HB5 := hid (HS.out.2.2.1.trans (hB5.mono HS.out.2.2.1.size))
    clear hle hD hB5 gl x0 x1 x2 x3
    obtain ⟨⟨x0, x1, x2, x3⟩, -⟩ := HX5.out
    have cL5 := hid (cL.out bd w5 HD.out)
    have cA5 := hid (fun n => cA.out bd n w5 HD.out)
    have cA1 := hid (cA5.out 3600)
    have cA2 := hid (cA5.out 0)
    rw [q1.out] at cA1
    rw [q2.out] at cA2
    go_wp2_with fail
    refine cL5.out.mono ?_
    rintro e w' ⟨rfl, rfl⟩
    go_wp2_with fail
    refine cA1.out.mono ?_
    rintro e w' ⟨rfl, rfl⟩
    go_wp2_with fail
    refine cA2.out.mono ?_
    rintro e w' ⟨rfl, rfl⟩
    go_wp2
    go_ret
    exact ⟨rfl, HB5.out⟩
end Go.Proofs.YtbfjceegfpddkaaGreatDoor
namespace Go.Proofs.YtbfjceegfpddkaaGreatDoor
open Go.RowKit
set_option linter.unusedVariables false

attribute [local go_sem ↓] loadAt_cl
theorem cellsSt : Tryz.prog.cellsOf 36 = 4 := by kernel_rfl
theorem keySt : Tryz.prog.keyTypeAt 3 36 = true := by kernel_rfl
theorem formSt (a : Bool) (f u p : Int) : (stv a f u p).formed Tryz.prog 36 = true := by
  unfold Value.formed; simp only [Tryz.underlying36, cellsSt]; rfl
theorem lits_st (d : Nat) (a : Bool) (f u p : Int) (hf : i64B f) (hu : i64B u) (hp : i64B p) : Tryz.prog.keyLits (d + 2) 36 [.bool a, .int .i64 f, .int .i64 u, .int .i64 p] = some [.bool a, .int .i64 f, .int .i64 u, .int .i64 p] := by
  unfold Program.keyLits
  simp only [Tryz.underlying36]
  simp [cellsI, cellsI64, cellsSt, cellsBl, lits_i, lits_l, lits_b, hf, hu, hp]
def eqlStS (x y : Value) : Sem Value := binOp .eql 36 x y
theorem eql_stS (x y : Value) : binOp .eql 36 x y = eqlStS x y := rfl
theorem eqlSt_run (a : Bool) (f u p : Int) (w : World) (hf : i64B f) (hu : i64B u) (hp : i64B p) : (eqlStS (stv a f u p) (stv a f u p)).run Tryz.prog w = .ok (.bool true) w := by
  rw [eqlStS, run_eql_struct]
  obtain ⟨r, hr, hi⟩ := run_equalIn_deep 9997 3 36 keySt w 3 3 _ _ _ _ (formSt a f u p) (formSt a f u p) (lits_st 1 a f u p hf hu hp) (lits_st 1 a f u p hf hu hp)
  have e : r = true := hi.2 rfl
  rw [e] at hr
  rw [hr]; rfl
theorem stG_bd {c : Cl} {n : Int} (hc : c.Ok) (h0 : 0 ≤ n) (h1 : n < 146097) : ∃ a f u p, stG c n = stv a f u p ∧ i64B f ∧ i64B u ∧ i64B p := by
  have z : i64B 0 := ⟨by decide, by decide⟩
  rw [stG]
  cases hl : liveD c n
  · exact ⟨false, 0, 0, 0, rfl, z, z, z⟩
  · have bd := st_bd hl h0 h1
    obtain ⟨hm, -, -, -, -⟩ := live_may hl
    obtain ⟨-, hs, -, -⟩ := may_ord hm
    refine ⟨true, _, _, _, rfl, ⟨by omega, by omega⟩, ⟨by omega, by omega⟩, ?_⟩
    have h2 := hc.step.2
    rw [phaseC]
    split
    · have e0 := Int.emod_nonneg (whichI c.unit c.anchor - 86400 * n / sizeU c.unit) (show c.step ≠ 0 by omega)
      have e1 := Int.emod_lt_of_pos (whichI c.unit c.anchor - 86400 * n / sizeU c.unit) (show 0 < c.step by omega)
      exact ⟨by omega, by omega⟩
    · exact z
theorem run_neq_nilFn {P : Program} {t : TypeId} {f : Fn} {a c : Array Value} {w : World} (h : ∃ x y z, P.underlying t = some (.func x y z)) : (binOp .neq t (.func f a c) .nilFunc).run P w = .ok (.bool true) w := by
  obtain ⟨x, y, z, h⟩ := h
  have : binOp .neq t (.func f a c) .nilFunc = (do pure (.bool (!(← Op.equal t (.func f a c) .nilFunc)))) := by cases f <;> rfl
  have h2 : (Op.equalIn (9999 + 1) t (.func f a c) .nilFunc).run P w = .ok false w := run_equalIn_func_nil h
  rw [this]
  simp only [Op.equal, Op.maxDepth, Sem.run_bind, h2, Result.andThen_ok, Sem.run_pure, Bool.not_false]
/-- what LapStates reads -/
structure LwF (w : World) (c : Cl) (s : Nat → Int) (bs bw : Nat) (a : Bool) (f u p : Int) (W : World) : Prop where
  c : ClB W w.heap.size c
  sh : ShS W bs s
  st : Four W bw (.bool a) (.int .i64 f) (.int .i64 u) (.int .i64 p)
  be : Below w.heap.size w W
  l : w.heap.size < W.heap.size ∧ bs < W.heap.size ∧ bw < W.heap.size
abbrev LwS (w : World) (c : Cl) (s : Nat → Int) (bs bw : Nat) (a : Bool) (f u p : Int) (w3 W : World) : Prop :=
  (loadClS (.pointer (some ⟨w.heap.size, 0, none⟩))).run Tryz.prog W = .ok (clv c) W ∧ ShS W bs s ∧ (W.cell? ⟨bw, 0, none⟩ = some (.bool a) ∧ W.cell? ⟨bw, 1, none⟩ = some (.int .i64 f) ∧ W.cell? ⟨bw, 2, none⟩ = some (.int .i64 u) ∧ W.cell? ⟨bw, 3, none⟩ = some (.int .i64 p)) ∧ LwF w c s bs bw a f u p W ∧ Below w3.heap.size w3 W
theorem LwF.s {w W w3 : World} {c : Cl} {s : Nat → Int} {bs bw : Nat} {a : Bool} {f u p : Int} (h : LwF w c s bs bw a f u p W) (hb : Below w3.heap.size w3 W) : LwS w c s bs bw a f u p w3 W := ⟨h.c.ld, h.sh, h.st.1, h, hb⟩
theorem LwF.keep {w W W' : World} {c : Cl} {s : Nat → Int} {bs bw : Nat} {a : Bool} {f u p : Int} (h : LwF w c s bs bw a f u p W) (hb : Below W.heap.size W W') : LwF w c s bs bw a f u p W' := by
  obtain ⟨l1, l2, l3⟩ := h.l
  have hs := hb.size
  exact ⟨h.c.below hb l1, h.sh.below hb l2, h.st.below hb l3, h.be.trans (hb.mono (Nat.le_of_lt l1)), by omega, by omega, by omega⟩
theorem LwS.keep {w w3 W W' : World} {c : Cl} {s : Nat → Int} {bs bw : Nat} {a : Bool} {f u p : Int} (h : LwS w c s bs bw a f u p w3 W) (hb : Below W.heap.size W W') : LwS w c s bs bw a f u p w3 W' :=
  (h.2.2.2.1.keep hb).s (h.2.2.2.2.trans (hb.mono h.2.2.2.2.size))
attribute [local go_sem ↓] eql_stS
set_option maxRecDepth 100000 in
set_option maxHeartbeats 6400000 in
theorem LapStates_walk (c : Cl) (k : Nat) (w : World) (hc : c.Ok) (hk : k < 4294967296) (hT : Tab w) : Calls Tryz.prog 3 #[clv c, .int .u32 k] w fun e w' => e = .returned (.bool true) ∧ Below w.heap.size w w' := by
  obtain ⟨n, hn⟩ : ∃ n : Int, (k : Int) % 146097 = n := ⟨_, rfl⟩
  have n0 : 0 ≤ n := by omega
  have n1 : n < 146097 := by omega
  have hkI : (k : Int) < 4294967296 := by omega
  have cH := hid (fun W => RShape_any n W n0 n1)
  have cL := hid (fun W => LapsG_any c W hc)
  have cS := hid (fun W => State16_any c n W hc n0 n1)
  have cO := hid (fun W => LapOnG_any c n W hc n0 n1)
  have cV := hid (fun W h => Lives16_any W h)
  have Hc := hid hc
  have HT := hid hT
  have Hcall : Hid (∀ W lo hi gv, LapV W lo hi c gv → ∃ y1 y2 y3 y4 y5 y6 : Nat, gv = lapFn y1 y2 y3 y4 y5 y6 ∧ ∀ W', hi ≤ W'.heap.size → (∀ b, lo ≤ b → b < hi → W'.heap[b]? = W.heap[b]?) →
        Calls Tryz.prog 36 #[shN n, .pointer (some ⟨y1, 0, none⟩), .pointer (some ⟨y2, 0, none⟩), .pointer (some ⟨y3, 0, none⟩), .pointer (some ⟨y4, 0, none⟩), .pointer (some ⟨y5, 0, none⟩), .pointer (some ⟨y6, 0, none⟩)] W' fun e w' => e = .returned (stG c n) ∧ Below W'.heap.size W' w') := fun W lo hi gv h => h.call hc n0 n1
  obtain ⟨a, f, u, p, hst, hf, hu, hp⟩ := stG_bd hc n0 n1
  have hEq := hid (fun W => eqlSt_run a f u p W hf hu hp)
  rw [hst] at cS cO Hcall
  rw [← shq_shF] at cH cS cO Hcall
  obtain ⟨s, hs⟩ : ∃ s, shF n = s := ⟨_, rfl⟩
  rw [hs] at cH cS cO Hcall
  rw [shq] at cH cS cO Hcall
  have Hn := hid hn
  clear hs hst hc hT hf hu hp n0 n1 hk
  obtain ⟨W1, hW1⟩ : ∃ W, w.alloc (.cells (clList c).toArray 28) = W := ⟨_, rfl⟩
  have HC1 : Hid (ClB W1 w.heap.size c) := by rw [← hW1]; exact clB_new w c _
  have HB1 : Hid (Below w.heap.size w W1) := by rw [← hW1]; exact below_new (Below.refl _ _) (Nat.le_refl _)
  have HL1 : Hid (w.heap.size < W1.heap.size) := by show _ < _; rw [← hW1]; simp
  have HW1 := hid hW1
  clear hW1 hn
  go_enter Tryz.func3, Tryz.ntmps3
  go_wp2_with fail
  rw [Hn.out, HW1.out]
  refine (cH.out _).mono ?_
  rintro e w2 ⟨rfl, hB2⟩
  obtain ⟨W3, hW3⟩ : ∃ W, w2.alloc (.cells (shList s).toArray 31) = W := ⟨_, rfl⟩
  have b3 : Below w2.heap.size w2 W3 := by rw [← hW3]; exact below_new (Below.refl _ _) (Nat.le_refl _)
  have hB3 := hB2.trans (b3.mono hB2.size)
  have HC3 := hid (HC1.out.below hB3 HL1.out)
  have HB3 := hid (HB1.out.trans (hB3.mono HB1.out.size))
  have HS3 : Hid (ShS W3 w2.heap.size s) := by rw [← hW3]; exact shC_new w2 31 _ _ _ _ _ _ _ _ _ _
  have HL3 : Hid (w.heap.size < W3.heap.size ∧ w2.heap.size < W3.heap.size) := ⟨Nat.lt_of_lt_of_le HL1.out hB3.size, by rw [← hW3]; simp⟩
  have HW3 := hid hW3
  clear hB2 b3 hB3 hW3
  go_upto_region 2 with fail
  rw [HW3.out]
  have gl := HC3.out.ld
  go_wp2_with fail
  refine (cL.out _).mono ?_
  rintro e w4 ⟨⟨gv, rfl, hV⟩, hB4⟩
  obtain ⟨y1, y2, y3, y4, y5, y6, rfl, hcall⟩ := Hcall.out _ _ _ _ hV
  dsimp only [lapFn]
  have HC4 := hid (HC3.out.below hB4 HL3.out.1)
  have HB4 := hid (HB3.out.trans (hB4.mono HB3.out.size))
  have HS4 := hid (HS3.out.below hB4 HL3.out.2)
  have HL4 : Hid (w.heap.size < w4.heap.size ∧ w2.heap.size < w4.heap.size) := ⟨Nat.lt_of_lt_of_le HL3.out.1 hB4.size, Nat.lt_of_lt_of_le HL3.out.2 hB4.size⟩
  have cF : Hid (∀ W', Below w4.heap.size w4 W' → Calls Tryz.prog 36 #[.agg #[.int .i64 (s 0), .int .i64 (s 1), .int .i64 (s 2), .int .i64 (s 3), .int .i64 (s 4), .int .i64 (s 5), .int .i64 (s 6), .int .i64 (s 7), .int .i64 (s 8), .int .i64 (s 9)], .pointer (some ⟨y1, 0, none⟩), .pointer (some ⟨y2, 0, none⟩), .pointer (some ⟨y3, 0, none⟩), .pointer (some ⟨y4, 0, none⟩), .pointer (some ⟨y5, 0, none⟩), .pointer (some ⟨y6, 0, none⟩)] W' fun e w' => e = .returned (stv a f u p) ∧ Below W'.heap.size W' w') :=
    fun W' hb => hcall W' hb.size (fun b _ h => hb.block b h)
  clear hV hB4 hcall gl
  have gl := HC4.out.ld
  obtain ⟨q0, q1, q2, q3, q4, q5, q6, q7, q8, q9⟩ := HS4.out
  go_wp2_with fail
  refine (cS.out _).mono ?_
  rintro e w5 ⟨rfl, hB5⟩
  obtain ⟨W6, hW6⟩ : ∃ W, w5.alloc (.cells #[.bool a, .int .i64 f, .int .i64 u, .int .i64 p] 36) = W := ⟨_, rfl⟩
  have b6 : Below w5.heap.size w5 W6 := by rw [← hW6]; exact below_new (Below.refl _ _) (Nat.le_refl _)
  have hB6 := hB5.trans (b6.mono hB5.size)
  have HQ : Hid (Four W6 w5.heap.size (.bool a) (.int .i64 f) (.int .i64 u) (.int .i64 p)) := by rw [← hW6]; exact four_new w5 _ _ _ _ _
  have hs6 : w5.heap.size < W6.heap.size := by rw [← hW6]; simp
  have HF6 : Hid (LwF w c s w2.heap.size w5.heap.size a f u p W6) := ⟨HC4.out.below hB6 HL4.out.1, HS4.out.below hB6 HL4.out.2, HQ.out, HB4.out.trans (hB6.mono HB4.out.size), Nat.lt_of_lt_of_le HL4.out.1 hB6.size, Nat.lt_of_lt_of_le HL4.out.2 hB6.size, hs6⟩
  have HB46 := hid hB6
  have HW6 := hid hW6
  clear hB5 b6 hB6 hs6 hW6 gl q0 q1 q2 q3 q4 q5 q6 q7 q8 q9
  go_upto_region 4 with fail
  rw [HW6.out]
  refine wp_region_held_drew (S := fun w' => LwS w c s w2.heap.size w5.heap.size a f u p w4 w') (by kernel_rfl) ((HF6.out.keep (Below.refl _ _).drew).s (HB46.out.trans ((Below.refl _ _).drew.mono HB46.out.size))) (fun hHeld => ?_)
  refine wpAnyH_take (i := 0) (v := ?_) rfl (by kernel_rfl) (by kernel_rfl) (by kernel_rfl) (fun _ _ _ h => h) (Or.inl ⟨by rfl, ?_⟩) (by assumption) ?_
  rotate_left
  · intro w hSw; go_simp; (try with_reducible rfl)
  (try simp only [Act.put, List.getElem_toArray, List.getElem_cons_zero, List.setIfInBounds_toArray, List.set_cons_zero, List.set_cons_succ])
  refine wpAnyH_take (i := 1) (v := ?_) rfl (by kernel_rfl) (by kernel_rfl) (by kernel_rfl) (fun _ _ _ h => h) (Or.inl ⟨by rfl, ?_⟩) (by assumption) ?_
  rotate_left
  · intro w hSw; have hq := run_neq_nilFn (P := Tryz.prog) (t := 33) (f := .func 36) (a := #[]) (c := #[.pointer (some ⟨y1, 0, none⟩), .pointer (some ⟨y2, 0, none⟩), .pointer (some ⟨y3, 0, none⟩), .pointer (some ⟨y4, 0, none⟩), .pointer (some ⟨y5, 0, none⟩), .pointer (some ⟨y6, 0, none⟩)]) (w := w) ⟨_, _, _, Tryz.underlying33⟩; go_simp; (try with_reducible rfl)
  (try simp only [Act.put, List.getElem_toArray, List.getElem_cons_succ, List.getElem_cons_zero, List.setIfInBounds_toArray, List.set_cons_zero, List.set_cons_succ])
  refine wpAnyH_take (i := 2) (v := ?_) rfl (by kernel_rfl) (by kernel_rfl) (by kernel_rfl) (fun _ _ _ h => h) (Or.inl ⟨by rfl, ?_⟩) (by assumption) ?_
  rotate_left
  · intro w hSw; go_simp; (try with_reducible rfl)
  (try simp only [Act.put, List.getElem_toArray, List.getElem_cons_succ, List.getElem_cons_zero, List.setIfInBounds_toArray, List.set_cons_zero, List.set_cons_succ])
  refine wpAnyH_take (i := 3) (v := ?_) rfl (by kernel_rfl) (by kernel_rfl) (by kernel_rfl) (fun _ _ _ h => h) (Or.inl ⟨by rfl, ?_⟩) (by assumption) ?_
  rotate_left
  · intro w hSw; go_simp; (try with_reducible rfl)
  (try simp only [Act.put, List.getElem_toArray, List.getElem_cons_succ, List.getElem_cons_zero, List.setIfInBounds_toArray, List.set_cons_zero, List.set_cons_succ])
  refine wpAnyH_take (i := 4) (v := ?_) rfl (by kernel_rfl) (by kernel_rfl) (by kernel_rfl) (fun _ _ _ h => h) (Or.inl ⟨by rfl, ?_⟩) (by assumption) ?_
  rotate_left
  · intro w hSw; go_simp; (try with_reducible rfl)
  (try simp only [Act.put, List.getElem_toArray, List.getElem_cons_succ, List.getElem_cons_zero, List.setIfInBounds_toArray, List.set_cons_zero, List.set_cons_succ])
  refine wpAnyH_take (i := 6) (v := ?_) rfl (by kernel_rfl) (by kernel_rfl) (by kernel_rfl) (fun _ _ _ h => h) (Or.inl ⟨by rfl, ?_⟩) (by assumption) ?_
  rotate_left
  · intro w hSw; go_simp; (try with_reducible rfl)
  (try simp only [Act.put, List.getElem_toArray, List.getElem_cons_succ, List.getElem_cons_zero, List.setIfInBounds_toArray, List.set_cons_zero, List.set_cons_succ])
  refine wpAnyH_ready (rs := [5]) (by kernel_rfl) (by simp) ?_
  refine AllReadyH.cons rfl (fun K hK => ?_) AllReadyH.nil
  go_simp
  refine (cF.out _ hHeld.2.2.2.2).mono ?_
  rintro e wa ⟨rfl, hB⟩
  have hS := LwS.keep hHeld hB
  clear hB
  (try go_wp2_with fail)
  refine hK.out _ _ hS (fun hHeld => ?_)
  clear hK K hS
  (try simp only [Act.put, List.getElem_toArray, List.getElem_cons_succ, List.getElem_cons_zero, List.setIfInBounds_toArray, List.set_cons_zero, List.set_cons_succ])
  refine wpAnyH_take (i := 7) (v := ?_) rfl (by kernel_rfl) (by kernel_rfl) (by kernel_rfl) (fun _ _ _ h => h) (Or.inl ⟨by rfl, ?_⟩) (by assumption) ?_
  rotate_left
  · intro w hSw; have hq := hEq.out w; go_simp; (try with_reducible rfl)
  (try simp only [Act.put, List.getElem_toArray, List.getElem_cons_succ, List.getElem_cons_zero, List.setIfInBounds_toArray, List.set_cons_zero, List.set_cons_succ])
  refine wpAnyH_take (i := 8) (v := ?_) rfl (by kernel_rfl) (by kernel_rfl) (by kernel_rfl) (fun _ _ _ h => h) (Or.inl ⟨by rfl, ?_⟩) (by assumption) ?_
  rotate_left
  · intro w hSw; go_simp; (try with_reducible rfl)
  (try simp only [Act.put, List.getElem_toArray, List.getElem_cons_succ, List.getElem_cons_zero, List.setIfInBounds_toArray, List.set_cons_zero, List.set_cons_succ])
  refine wpAnyH_take (i := 9) (v := ?_) rfl (by kernel_rfl) (by kernel_rfl) (by kernel_rfl) (fun _ _ _ h => h) (Or.inl ⟨by rfl, ?_⟩) (by assumption) ?_
  rotate_left
  · intro w hSw; go_simp; (try with_reducible rfl)
  (try simp only [Act.put, List.getElem_toArray, List.getElem_cons_succ, List.getElem_cons_zero, List.setIfInBounds_toArray, List.set_cons_zero, List.set_cons_succ])
  refine wpAnyH_take (i := 10) (v := ?_) rfl (by kernel_rfl) (by kernel_rfl) (by kernel_rfl) (fun _ _ _ h => h) (Or.inl ⟨by rfl, ?_⟩) (by assumption) ?_
  rotate_left
  · intro w hSw; go_simp; (try with_reducible rfl)
  (try simp only [Act.put, List.getElem_toArray, List.getElem_cons_succ, List.getElem_cons_zero, List.setIfInBounds_toArray, List.set_cons_zero, List.set_cons_succ])
  refine wpAnyH_take (i := 11) (v := ?_) rfl (by kernel_rfl) (by kernel_rfl) (by kernel_rfl) (fun _ _ _ h => h) (Or.inl ⟨by rfl, ?_⟩) (by assumption) ?_
  rotate_left
  · intro w hSw; go_simp; (try with_reducible rfl)
  (try simp only [Act.put, List.getElem_toArray, List.getElem_cons_succ, List.getElem_cons_zero, List.setIfInBounds_toArray, List.set_cons_zero, List.set_cons_succ])
  refine wpAnyH_take (i := 13) (v := ?_) rfl (by kernel_rfl) (by kernel_rfl) (by kernel_rfl) (fun _ _ _ h => h) (Or.inl ⟨by rfl, ?_⟩) (by assumption) ?_
  rotate_left
  · intro w hSw; go_simp; (try with_reducible rfl)
  (try simp only [Act.put, List.getElem_toArray, List.getElem_cons_succ, List.getElem_cons_zero, List.setIfInBounds_toArray, List.set_cons_zero, List.set_cons_succ])
  refine wpAnyH_ready (rs := [12]) (by kernel_rfl) (by simp) ?_
  refine AllReadyH.cons rfl (fun K hK => ?_) AllReadyH.nil
  go_simp
  refine (cO.out _).mono ?_
  rintro e wb ⟨rfl, hB⟩
  have hS := LwS.keep hHeld hB
  clear hB
  (try go_wp2_with fail)
  refine hK.out _ _ hS (fun hHeld => ?_)
  clear hK K hS
  (try simp only [Act.put, List.getElem_toArray, List.getElem_cons_succ, List.getElem_cons_zero, List.setIfInBounds_toArray, List.set_cons_zero, List.set_cons_succ])
  refine wpAnyH_take (i := 14) (v := ?_) rfl (by kernel_rfl) (by kernel_rfl) (by kernel_rfl) (fun _ _ _ h => h) (Or.inl ⟨by rfl, ?_⟩) (by assumption) ?_
  rotate_left
  · intro w hSw; have hq := hEq.out w; go_simp; (try with_reducible rfl)
  (try simp only [Act.put, List.getElem_toArray, List.getElem_cons_succ, List.getElem_cons_zero, List.setIfInBounds_toArray, List.set_cons_zero, List.set_cons_succ])
  refine wpAnyH_take (i := 15) (v := ?_) rfl (by kernel_rfl) (by kernel_rfl) (by kernel_rfl) (fun _ _ _ h => h) (Or.inl ⟨by rfl, ?_⟩) (by assumption) ?_
  rotate_left
  · intro w hSw; go_simp; (try with_reducible rfl)
  (try simp only [Act.put, List.getElem_toArray, List.getElem_cons_succ, List.getElem_cons_zero, List.setIfInBounds_toArray, List.set_cons_zero, List.set_cons_succ])
  refine wpAnyH_take (i := 16) (v := ?_) rfl (by kernel_rfl) (by kernel_rfl) (by kernel_rfl) (fun _ _ _ h => h) (Or.inl ⟨by rfl, ?_⟩) (by assumption) ?_
  rotate_left
  · intro w hSw; go_simp; (try with_reducible rfl)
  (try simp only [Act.put, List.getElem_toArray, List.getElem_cons_succ, List.getElem_cons_zero, List.setIfInBounds_toArray, List.set_cons_zero, List.set_cons_succ])
  refine wpAnyH_ready (rs := [17]) (by kernel_rfl) (by simp) ?_
  refine AllReadyH.cons rfl (fun K hK => ?_) AllReadyH.nil
  go_simp
  refine (cV.out _ (HT.out.later hHeld.2.2.2.1.be)).mono ?_
  rintro e wc ⟨rfl, hB⟩
  have hS := LwS.keep hHeld hB
  clear hB
  (try go_wp2_with fail)
  refine hK.out _ _ hS (fun hHeld => ?_)
  clear hK K hS
  (try simp only [Act.put, List.getElem_toArray, List.getElem_cons_succ, List.getElem_cons_zero, List.setIfInBounds_toArray, List.set_cons_zero, List.set_cons_succ])
  refine wpAnyH_take (i := 18) (v := ?_) rfl (by kernel_rfl) (by kernel_rfl) (by kernel_rfl) (fun _ _ _ h => h) (Or.inl ⟨by rfl, ?_⟩) (by assumption) ?_
  rotate_left
  · intro w hSw; go_simp; (try with_reducible rfl)
  (try simp only [Act.put, List.getElem_toArray, List.getElem_cons_succ, List.getElem_cons_zero, List.setIfInBounds_toArray, List.set_cons_zero, List.set_cons_succ])
  refine wpAnyH_take (i := 19) (v := ?_) rfl (by kernel_rfl) (by kernel_rfl) (by kernel_rfl) (fun _ _ _ h => h) (Or.inl ⟨by rfl, ?_⟩) (by assumption) ?_
  rotate_left
  · intro w hSw; go_simp; (try with_reducible rfl)
  (try simp only [Act.put, List.getElem_toArray, List.getElem_cons_succ, List.getElem_cons_zero, List.setIfInBounds_toArray, List.set_cons_zero, List.set_cons_succ])
  refine wpAnyH_done (by kernel_rfl) ?_ _
  have hf := (show Below w.heap.size w _ from hHeld.2.2.2.1.be)
  have HFin := hid hf
  clear hHeld hf
  go_wp2
  go_ret
  exact ⟨rfl, HFin.out⟩
end Go.Proofs.YtbfjceegfpddkaaGreatDoor

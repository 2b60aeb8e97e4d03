/-
  ferialaw14.DayActive answers true.
-/
import Derived.Test.YtndfckpcbiecnaaDayTell
import Derived.Test.YtndfckpcbiecnaaDayRefs
namespace Go.Proofs.Ytndfckpcbiecnaa
open Go.RowKit
set_option linter.unusedVariables false

structure DaF (w : World) (b : Nat) (s : Nat → Int) (W : World) : Prop where
  sh : ShS W b s
  be : Below w.heap.size w W
  l : b < W.heap.size
theorem DaF.keep {w W W' : World} {b : Nat} {s : Nat → Int} (h : DaF w b s W) (hb : Below W.heap.size W W') : DaF w b s W' :=
  ⟨h.sh.below hb h.l, h.be.trans (hb.mono h.be.size), Nat.lt_of_lt_of_le h.l hb.size⟩
abbrev DaP (w : World) (b : Nat) (s : Nat → Int) (W : World) : Prop := ShS W b s ∧ DaF w b s W
theorem DaF.p {w W : World} {b : Nat} {s : Nat → Int} (h : DaF w b s W) : DaP w b s W := ⟨h.sh, h⟩
set_option maxRecDepth 100000 in
set_option maxHeartbeats 3200000 in
theorem DayActive_walk (a : Option Addr) (cap : Nat) (l : List Cl) (d : Int) (w : World) (hl : l.length ≤ 9223372036854775807) (hlc : l.length ≤ cap) (hs : Sl w a (cls l)) (hok : ∀ c ∈ l, c.Ok) (hd : 0 ≤ d ∧ d ≤ 4294967295) :
    Calls Try.prog 11 #[.slice a l.length cap, .int .u32 d] w fun e w' => e = .returned (.bool true) ∧ Below w.heap.size w w' := by
  obtain ⟨hd0, hd1⟩ := hd
  have cV := hid (fun W => Lives14_any W)
  by_cases h70 : 70 < l.length
  · have h70I : (70 : Int) < l.length := by omega
    clear hs hok
    go_enter Try.func11, Try.ntmps11
    go_wp2_with fail
    refine (cV.out _).mono ?_
    rintro e w1 ⟨rfl, hB1⟩
    have HB1 := hid hB1
    clear hB1
    go_wp2
    go_ret
    exact ⟨rfl, HB1.out⟩
  have h70I : ¬ (70 : Int) < l.length := by omega
  have hq0 : 0 ≤ d % 146097 := Int.emod_nonneg _ (by omega)
  have hq1 : d % 146097 < 146097 := Int.emod_lt_of_pos _ (by omega)
  have cS := hid (fun W => RShape_any (d % 146097) W hq0 hq1)
  have c1 := hid (fun W (h : DaP w w.heap.size (shF (d % 146097)) W) => DActive_any a cap l (d % 146097) W hl (hs.below h.2.be) hok hq0 hq1)
  have d1 := hid (fun b W (h : DaP w b (shF (d % 146097)) W) => (DActive_any a cap l (d % 146097) W hl (hs.below h.2.be) hok hq0 hq1).mono fun e w' he => (⟨he.1, (h.2.keep he.2).p⟩ : e = .returned (.int .u64 (actM l (d % 146097) : Nat)) ∧ DaP w b (shF (d % 146097)) w'))
  have d2 := hid (fun b W (h : DaP w b (shF (d % 146097)) W) => (RActive_any a cap l (d % 146097) W hl (hs.below h.2.be) hok hq0 hq1).mono fun e w' he => (⟨he.1, (h.2.keep he.2).p⟩ : e = .returned (.int .u64 (actM l (d % 146097) : Nat)) ∧ DaP w b (shF (d % 146097)) w'))
  have d3 := hid (fun b s W (h : DaP w b s W) => (Lives14_any W).mono fun e w' he => (⟨he.1, (h.2.keep he.2).p⟩ : e = .returned (.bool true) ∧ DaP w b s w'))
  rw [← shq_shF] at cS d1 d2
  obtain ⟨s, hsf⟩ : ∃ s, shF (d % 146097) = s := ⟨_, rfl⟩
  rw [hsf] at cS d1 d2
  obtain ⟨x, hx⟩ : ∃ x, d % 146097 = x := ⟨_, rfl⟩
  rw [hx] at cS d1 d2 hq0 hq1
  have Hx := hid hx
  obtain ⟨M, hM⟩ : ∃ M, actM l x = M := ⟨_, rfl⟩
  rw [hM] at d1 d2
  rw [shq] at cS d1 d2
  clear hsf hx hM c1 hs hok
  go_enter Try.func11, Try.ntmps11
  go_wp2_with fail
  (try rw [Hx.out])
  refine (cS.out _).mono ?_
  rintro e w1 ⟨rfl, hB1⟩
  have HF1 : Hid (DaP w w1.heap.size s (w1.alloc (.cells (shList s).toArray 60)).drew) :=
    (DaF.keep ⟨shC_new w1 60 _ _ _ _ _ _ _ _ _ _, hB1.trans ((below_new (Below.refl _ _) (Nat.le_refl _)).mono hB1.size), by simp⟩ (Below.refl _ _).drew).p
  clear hB1
  go_upto_region 4 with fail
  refine wp_region_held_drew (S := fun w' => DaP w w1.heap.size s w') (by kernel_rfl) HF1.out (fun hHeld => ?_)
  refine wpAnyH_take (i := 0) (v := ?_) rfl (by kernel_rfl) (by kernel_rfl) (by kernel_rfl) (fun _ _ _ h => h) (Or.inl ⟨by rfl, ?_⟩) (by assumption) ?_
  rotate_left
  · intro w hSw; go_simp; (try with_reducible rfl)
  (try simp only [Act.put, List.getElem_toArray, List.getElem_cons_zero, List.setIfInBounds_toArray, List.set_cons_zero, List.set_cons_succ])
  refine wpAnyH_take (i := 1) (v := ?_) rfl (by kernel_rfl) (by kernel_rfl) (by kernel_rfl) (fun _ _ _ h => h) (Or.inl ⟨by rfl, ?_⟩) (by assumption) ?_
  rotate_left
  · intro w hSw; go_simp; (try with_reducible rfl)
  (try simp only [Act.put, List.getElem_toArray, List.getElem_cons_succ, List.getElem_cons_zero, List.setIfInBounds_toArray, List.set_cons_zero, List.set_cons_succ])
  refine wpAnyH_take (i := 3) (v := ?_) rfl (by kernel_rfl) (by kernel_rfl) (by kernel_rfl) (fun _ _ _ h => h) (Or.inl ⟨by rfl, ?_⟩) (by assumption) ?_
  rotate_left
  · intro w hSw; go_simp; (try with_reducible rfl)
  (try simp only [Act.put, List.getElem_toArray, List.getElem_cons_succ, List.getElem_cons_zero, List.setIfInBounds_toArray, List.set_cons_zero, List.set_cons_succ])
  refine wpAnyH_take (i := 4) (v := ?_) rfl (by kernel_rfl) (by kernel_rfl) (by kernel_rfl) (fun _ _ _ h => h) (Or.inl ⟨by rfl, ?_⟩) (by assumption) ?_
  rotate_left
  · intro w hSw; go_simp; (try with_reducible rfl)
  (try simp only [Act.put, List.getElem_toArray, List.getElem_cons_succ, List.getElem_cons_zero, List.setIfInBounds_toArray, List.set_cons_zero, List.set_cons_succ])
  refine wpAnyH_ready (rs := [2]) (by kernel_rfl) (by simp) ?_
  refine AllReadyH.cons rfl (fun K hK => ?_) AllReadyH.nil
  go_simp
  refine (d1.out _ _ (by assumption)).mono ?_; rintro e w2 ⟨rfl, hS⟩
  (try go_wp2_with fail)
  refine hK.out _ _ (by assumption) (fun hHeld => ?_)
  clear hK K
  (try simp only [Act.put, List.getElem_toArray, List.getElem_cons_succ, List.getElem_cons_zero, List.setIfInBounds_toArray, List.set_cons_zero, List.set_cons_succ])
  refine wpAnyH_ready (rs := [5]) (by kernel_rfl) (by simp) ?_
  refine AllReadyH.cons rfl (fun K hK => ?_) AllReadyH.nil
  go_simp
  refine (d2.out _ _ (by assumption)).mono ?_; rintro e w3 ⟨rfl, hS⟩
  (try go_wp2_with fail)
  refine hK.out _ _ (by assumption) (fun hHeld => ?_)
  clear hK K
  (try simp only [Act.put, List.getElem_toArray, List.getElem_cons_succ, List.getElem_cons_zero, List.setIfInBounds_toArray, List.set_cons_zero, List.set_cons_succ])
  refine wpAnyH_take (i := 6) (v := ?_) rfl (by kernel_rfl) (by kernel_rfl) (by kernel_rfl) (fun _ _ _ h => h) (Or.inl ⟨by rfl, ?_⟩) (by assumption) ?_
  rotate_left
  · intro w hSw; go_simp; (try with_reducible rfl)
  (try simp only [Act.put, List.getElem_toArray, List.getElem_cons_succ, List.getElem_cons_zero, List.setIfInBounds_toArray, List.set_cons_zero, List.set_cons_succ])
  refine wpAnyH_take (i := 7) (v := ?_) rfl (by kernel_rfl) (by kernel_rfl) (by kernel_rfl) (fun _ _ _ h => h) (Or.inl ⟨by rfl, ?_⟩) (by assumption) ?_
  rotate_left
  · intro w hSw; go_simp; (try with_reducible rfl)
  (try simp only [Act.put, List.getElem_toArray, List.getElem_cons_succ, List.getElem_cons_zero, List.setIfInBounds_toArray, List.set_cons_zero, List.set_cons_succ])
  refine wpAnyH_ready (rs := [8]) (by kernel_rfl) (by simp) ?_
  refine AllReadyH.cons rfl (fun K hK => ?_) AllReadyH.nil
  go_simp
  refine (d3.out _ _ _ (by assumption)).mono ?_; rintro e w4 ⟨rfl, hS⟩
  (try go_wp2_with fail)
  refine hK.out _ _ (by assumption) (fun hHeld => ?_)
  clear hK K
  (try simp only [Act.put, List.getElem_toArray, List.getElem_cons_succ, List.getElem_cons_zero, List.setIfInBounds_toArray, List.set_cons_zero, List.set_cons_succ])
  refine wpAnyH_take (i := 9) (v := ?_) rfl (by kernel_rfl) (by kernel_rfl) (by kernel_rfl) (fun _ _ _ h => h) (Or.inl ⟨by rfl, ?_⟩) (by assumption) ?_
  rotate_left
  · intro w hSw; go_simp; (try with_reducible rfl)
  (try simp only [Act.put, List.getElem_toArray, List.getElem_cons_succ, List.getElem_cons_zero, List.setIfInBounds_toArray, List.set_cons_zero, List.set_cons_succ])
  refine wpAnyH_take (i := 10) (v := ?_) rfl (by kernel_rfl) (by kernel_rfl) (by kernel_rfl) (fun _ _ _ h => h) (Or.inl ⟨by rfl, ?_⟩) (by assumption) ?_
  rotate_left
  · intro w hSw; go_simp; (try with_reducible rfl)
  (try simp only [Act.put, List.getElem_toArray, List.getElem_cons_succ, List.getElem_cons_zero, List.setIfInBounds_toArray, List.set_cons_zero, List.set_cons_succ])
  refine wpAnyH_done (by kernel_rfl) ?_ _
  have HV := hid ‹DaP w w1.heap.size s _›
  go_wp2
  go_ret
  exact ⟨rfl, HV.out.2.be⟩
end Go.Proofs.Ytndfckpcbiecnaa

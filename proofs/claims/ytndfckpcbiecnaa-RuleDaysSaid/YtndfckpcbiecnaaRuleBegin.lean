/-
  rule.begin.
-/
import Derived.Test.YtndfckpcbiecnaaRuleRSame
import Derived.Test.YtndfckpcbiecnaaRuleStamp
import Derived.Deep.RegionHeld3
namespace Go.Proofs.Ytndfckpcbiecnaa
open Go.RowKit
set_option linter.unusedVariables false

theorem frozen_setR (w : World) (a b : Addr) (v : Value) : (w.setCell a v).frozen? b = w.frozen? b := by simp [go_sem]
/-- what begin reads: the rule, the stamp -/
structure BgF (w : World) (r : Ru) (b : Nat) (y mo d h m s : Int) (W : World) : Prop where
  rb : RuB W w.heap.size r
  six : Six W b (.int .i64 y) (.int .i64 mo) (.int .i64 d) (.int .i64 h) (.int .i64 m) (.int .i64 s)
  be : Below w.heap.size w W
  l : w.heap.size + 1 < b ∧ b < W.heap.size
abbrev BgS (w : World) (r : Ru) (b : Nat) (y mo d h m s : Int) (W : World) : Prop :=
  RuC W w.heap.size r ∧ Six W b (.int .i64 y) (.int .i64 mo) (.int .i64 d) (.int .i64 h) (.int .i64 m) (.int .i64 s) ∧ BgF w r b y mo d h m s W
theorem BgF.sas {w W : World} {r : Ru} {b : Nat} {y mo d h m s : Int} (k : BgF w r b y mo d h m s W) : BgS w r b y mo d h m s W := ⟨k.rb.all, k.six, k⟩
theorem BgF.keep {w W W' : World} {r : Ru} {b : Nat} {y mo d h m s : Int} (k : BgF w r b y mo d h m s W) (hb : Below W.heap.size W W') : BgF w r b y mo d h m s W' := by
  have hs := hb.size
  have l := k.l
  exact ⟨k.rb.below hb (by omega), k.six.below hb l.2, k.be.trans (hb.mono (by omega)), l.1, by omega⟩
theorem BgS.keep {w W W' : World} {r : Ru} {b : Nat} {y mo d h m s : Int} (k : BgS w r b y mo d h m s W) (hb : Below W.heap.size W W') : BgS w r b y mo d h m s W' := (k.2.2.keep hb).sas
theorem BgS.set {w W : World} {r : Ru} {b : Nat} {y mo d h m s : Int} (k : BgS w r b y mo d h m s W) (o : Nat) (v : Value) : BgS w r b y mo d h m s (W.setCell ⟨w.heap.size + 1, o, none⟩ v) := by
  obtain ⟨h1, ⟨⟨a0, a1, a2, a3, a4, a5⟩, f0, f1, f2, f3, f4, f5⟩, h3, h4⟩ := k.2.2
  have hb : Below (w.heap.size + 1) W (W.setCell ⟨w.heap.size + 1, o, none⟩ v) := below_set (Below.refl _ _) (Nat.le_refl _)
  have hs : (W.setCell ⟨w.heap.size + 1, o, none⟩ v).heap.size = W.heap.size := World.size_setCell _ _ _
  have ne : ∀ i, (⟨b, i, none⟩ : Addr) ≠ ⟨w.heap.size + 1, o, none⟩ := fun i e => by injection e with e _ _; omega
  have ec : ∀ i, (W.setCell ⟨w.heap.size + 1, o, none⟩ v).cell? ⟨b, i, none⟩ = W.cell? ⟨b, i, none⟩ := fun i => World.cell?_setCell_other _ _ _ _ (ne i).symm
  exact BgF.sas ⟨h1.below hb (by omega), ⟨⟨(ec 0).trans a0, (ec 1).trans a1, (ec 2).trans a2, (ec 3).trans a3, (ec 4).trans a4, (ec 5).trans a5⟩, by rw [frozen_setR]; exact f0, by rw [frozen_setR]; exact f1, by rw [frozen_setR]; exact f2, by rw [frozen_setR]; exact f3, by rw [frozen_setR]; exact f4, by rw [frozen_setR]; exact f5⟩,
    below_set h3 (by omega), h4.1, by rw [hs]; exact h4.2⟩
theorem stampV_six (t : Int) : ∃ y mo d h m s : Int, stampV t = stpv y mo d h m s := by
  rw [stampV]; split <;> exact ⟨_, _, _, _, _, _, rfl⟩
set_option maxRecDepth 100000 in
set_option maxHeartbeats 6400000 in
theorem Begin_any (r : Ru) (w : World) (hr : RuS w r) (hm : r.Sm 1000000) : Calls Try.prog 80 #[ruv r] w fun e w' => e = .returned (.tuple #[stampV r.st, .bool (checkE r == 0)]) ∧ Below w.heap.size w w' := by
  have cS := hid (fun W => Stamp_any r.st W)
  obtain ⟨y, mo, d, h, m, s, hst⟩ := stampV_six r.st
  rw [hst] at cS ⊢
  have cC : Hid (∀ b W, BgS w r b y mo d h m s W → Calls Try.prog 20 #[ruv r] W fun e w' => e = .returned (.int .i64 (checkE r)) ∧ BgS w r b y mo d h m s w' ∧ Below W.heap.size W w') := fun b W k =>
    (Check_any r W (hr.below k.2.2.be) hm).mono fun e w' ⟨he, hb⟩ => ⟨he, k.keep hb, hb⟩
  obtain ⟨E, hE⟩ : ∃ E, checkE r = E := ⟨_, rfl⟩
  rw [hE] at cC ⊢
  obtain ⟨i, hi⟩ : ∃ i, winB r.st = i := ⟨_, rfl⟩
  rw [hi] at cS
  have HB0 : Hid (Below w.heap.size w ((w.alloc (.cells (ruList r).toArray 34)).alloc (.cells #[.int .i64 0, .int .i64 0, .int .i64 0, .int .i64 0, .int .i64 0, .int .i64 0] 123))) := below_new (below_new (Below.refl _ _) (Nat.le_refl _)) (by simp)
  have hRB : RuB ((w.alloc (.cells (ruList r).toArray 34)).alloc (.cells #[.int .i64 0, .int .i64 0, .int .i64 0, .int .i64 0, .int .i64 0, .int .i64 0] 123)) w.heap.size r := (ruB_new w r _).below (below_new (Below.refl _ _) (Nat.le_refl _)) (by simp)
  have HRB := hid hRB
  have hX := six_new (w.alloc (.cells (ruList r).toArray 34)) (.int .i64 0) (.int .i64 0) (.int .i64 0) (.int .i64 0) (.int .i64 0) (.int .i64 0) 123
  rw [World.size_alloc] at hX
  have HX := hid hX
  have Hz0 : Hid (((w.alloc (.cells (ruList r).toArray 34)).alloc (.cells #[.int .i64 0, .int .i64 0, .int .i64 0, .int .i64 0, .int .i64 0, .int .i64 0] 123)).heap.size = w.heap.size + 1 + 1) := by show _ = _; simp
  clear hr hm hst hE hi hRB hX
  go_enter Try.func80, Try.ntmps80
  go_wp2_with fail
  refine (cS.out _).mono ?_
  rintro e w1 ⟨rfl, hB1⟩
  have hz := hB1.size
  rw [Hz0.out] at hz
  have hn := below_new (o := .cells #[.int .i64 y, .int .i64 mo, .int .i64 d, .int .i64 h, .int .i64 m, .int .i64 s] 123) (Below.refl w1.heap.size w1) (Nat.le_refl _)
  have hX1 := (HX.out.below hB1 (by rw [Hz0.out]; omega)).below hn (by omega)
  have HF := hid (BgF.sas (b := w1.heap.size) ⟨((HRB.out.below hB1 (by rw [Hz0.out]; omega)).below hn (by omega)), six_new w1 (.int .i64 y) (.int .i64 mo) (.int .i64 d) (.int .i64 h) (.int .i64 m) (.int .i64 s) 123, (HB0.out.trans (hB1.mono (by rw [Hz0.out]; omega))).trans (hn.mono (by omega)), by omega, by simp only [World.size_alloc]; omega⟩)
  have HX1 := hid (hX1.below (Below.refl (w.heap.size + 1 + 1) _).drew (by omega))
  have HS0 := hid (HF.out.keep (Below.refl _ _).drew)
  have hzz : w.heap.size + 1 < w1.heap.size := by omega
  have Hzz := hid hzz
  clear hB1 hn hX1 HRB HX HB0 Hz0 hz hzz HF
  go_wp2_with fail
  refine wp_region_held_drew (S := fun w' => BgS w r w1.heap.size y mo d h m s w') (by kernel_rfl) HS0.out (fun hHeld => ?_)
  refine wpAnyH_take (i := 0) (v := ?_) rfl (by kernel_rfl) (by kernel_rfl) (by kernel_rfl) (fun _ _ _ h => h) (Or.inl ⟨by rfl, ?_⟩) (by assumption) ?_
  rotate_left
  · intro w hSw; (try dsimp only [RMS] at hSw); go_simp; (try with_reducible rfl)
  (try simp only [Act.put, List.getElem_toArray, List.getElem_cons_zero, List.setIfInBounds_toArray, List.set_cons_zero, List.set_cons_succ])
  refine wpAnyH_take (i := 1) (v := ?_) rfl (by kernel_rfl) (by kernel_rfl) (by kernel_rfl) (fun _ _ _ h => h) (Or.inl ⟨by rfl, ?_⟩) (by assumption) ?_
  rotate_left
  · intro w hSw; (try dsimp only [RMS] at hSw); go_simp; (try with_reducible rfl)
  (try simp only [Act.put, List.getElem_toArray, List.getElem_cons_succ, List.getElem_cons_zero, List.setIfInBounds_toArray, List.set_cons_zero, List.set_cons_succ])
  refine wpAnyH_ready (rs := [2]) (by kernel_rfl) (by simp) ?_
  refine AllReadyH.cons rfl (fun K hK => ?_) AllReadyH.nil
  go_simp
  refine (cC.out _ _ (by assumption)).mono ?_; rintro e w2 ⟨rfl, hS, hB⟩
  have HX2 := hid (HX1.out.below hB (by have := hHeld.2.2.l; omega))
  clear hB
  (try go_wp2_with fail)
  refine hK.out _ _ hS (fun hHeld => ?_)
  clear hK K
  (try simp only [Act.put, List.getElem_toArray, List.getElem_cons_succ, List.getElem_cons_zero, List.setIfInBounds_toArray, List.set_cons_zero, List.set_cons_succ])
  refine wpAnyH_take (i := 3) (v := ?_) rfl (by kernel_rfl) (by kernel_rfl) (by kernel_rfl) (fun _ _ _ h => h) (Or.inl ⟨by rfl, ?_⟩) (by assumption) ?_
  rotate_left
  · intro w hSw; (try dsimp only [RMS] at hSw); go_simp; (try with_reducible rfl)
  (try simp only [Act.put, List.getElem_toArray, List.getElem_cons_succ, List.getElem_cons_zero, List.setIfInBounds_toArray, List.set_cons_zero, List.set_cons_succ])
  obtain ⟨⟨a0, a1, a2, a3, a4, a5⟩, f0, f1, f2, f3, f4, f5⟩ := HX2.out
  refine wpAnyH_ready (rs := [4]) (by kernel_rfl) (by simp) ?_
  refine AllReadyH.cons rfl (fun K hK => ?_) AllReadyH.nil
  go_simp
  (try go_wp2_with fail)
  refine hK.out _ _ ((((((hS.set 0 _).set 1 _).set 2 _).set 3 _).set 4 _).set 5 _) (fun hHeld => ?_)
  clear hK K
  (try simp only [Act.put, List.getElem_toArray, List.getElem_cons_succ, List.getElem_cons_zero, List.setIfInBounds_toArray, List.set_cons_zero, List.set_cons_succ])
  refine wpAnyH_take (i := 5) (v := ?_) rfl (by kernel_rfl) (by kernel_rfl) (by kernel_rfl) (fun _ _ _ h => h) (Or.inl ⟨by rfl, ?_⟩) (by assumption) ?_
  rotate_left
  · intro w hSw; (try dsimp only [RMS] at hSw); go_simp; (try with_reducible rfl)
  (try simp only [Act.put, List.getElem_toArray, List.getElem_cons_succ, List.getElem_cons_zero, List.setIfInBounds_toArray, List.set_cons_zero, List.set_cons_succ])
  refine wpAnyH_done (by kernel_rfl) ?_ _
  have HV := hid (((((((hS.set 0 (.int .i64 y)).set 1 (.int .i64 mo)).set 2 (.int .i64 d)).set 3 (.int .i64 h)).set 4 (.int .i64 m)).set 5 (.int .i64 s)).2.2.be)
  go_wp2
  exact bodyPost_ret (results_cell_mid2 rfl _ _ (w.heap.size + 1) 0 _ _ rfl (six_put HX2.out.there _ _ _ _ _ _) Try.underlying123 rfl infoStp) rfl ⟨rfl, HV.out⟩
end Go.Proofs.Ytndfckpcbiecnaa

/-
  ferialaw14.DayMore answers true.
-/
import Derived.Test.YtndfckpcbiecnaaDayTell
import Derived.Test.YtndfckpcbiecnaaOpenCls
import Derived.Deep.RegionHeld3
namespace Go.Proofs.Ytndfckpcbiecnaa
open Go.RowKit
set_option linter.unusedVariables false

/-! ### the plain law -/
theorem act_more {l : List Cl} {c : Cl} (hl : l.length ≤ 8) (n : Int) : actB (l ++ [c]) n = (actB l n || actB [c] n) := by
  have e : ∀ cs : List Cl, cs.length ≤ 9 → (actB cs n = true ↔ ∃ i, i < cs.length ∧ liveD (atC cs i) n = true) := fun cs h => by
    rw [actB, decide_eq_true_eq]
    constructor
    · intro h1
      apply Classical.byContradiction
      intro h2
      refine h1 (actM_zero.2 fun i h3 h4 => ?_)
      rw [← Bool.not_eq_true]
      exact fun h5 => h2 ⟨i, h3, h5⟩
    · rintro ⟨i, h1, h2⟩ h3
      have := actM_zero.1 h3 i h1 (by omega)
      rw [h2] at this; cases this
  have g : ∀ i, i < l.length → atC (l ++ [c]) i = atC l i := fun i h => by
    rw [atC_get (cs := l ++ [c]) (by rw [List.length_append]; omega), atC_get h, List.getElem_append_left h]
  have gl : atC (l ++ [c]) l.length = c := by
    rw [atC_get (cs := l ++ [c]) (by simp)]; simp
  rw [Bool.eq_iff_iff, Bool.or_eq_true, e _ (by simp; omega), e _ (by omega), e _ (by simp)]
  constructor
  · rintro ⟨i, h1, h2⟩
    by_cases hi : i < l.length
    · rw [g i hi] at h2; exact .inl ⟨i, hi, h2⟩
    · obtain rfl : i = l.length := by rw [List.length_append] at h1; simp at h1; omega
      rw [gl] at h2
      exact .inr ⟨0, by simp, h2⟩
  · rintro (⟨i, h1, h2⟩ | ⟨i, h1, h2⟩)
    · exact ⟨i, by rw [List.length_append]; omega, by rw [g i h1]; exact h2⟩
    · obtain rfl : i = 0 := by simpa using h1
      exact ⟨l.length, by simp, by rw [gl]; exact h2⟩
theorem count_or {α : Type} (p q r : α → Bool) (h : ∀ x, r x = (p x || q x)) : ∀ l : List α, l.countP p ≤ l.countP r ∧ l.countP r ≤ l.countP p + l.countP q ∧ l.countP q ≤ l.countP r
  | [] => by simp
  | a :: l => by
    have := count_or p q r h l
    rw [List.countP_cons, List.countP_cons, List.countP_cons, h a]
    cases p a <;> cases q a <;> simp <;> omega
theorem more_laws {l : List Cl} {c : Cl} (hl : l.length ≤ 8) : (daysT l 0 146096).length ≤ (daysT (l ++ [c]) 0 146096).length ∧ (daysT (l ++ [c]) 0 146096).length ≤ (daysT l 0 146096).length + (daysT [c] 0 146096).length ∧ (daysT [c] 0 146096).length ≤ (daysT (l ++ [c]) 0 146096).length := by
  rw [daysT, daysT, daysT, filter_len, filter_len, filter_len]
  exact count_or _ _ _ (act_more hl) _
theorem one_may {c : Cl} (h : mayC c = false) : (daysT [c] 0 146096).length = 0 := by
  rw [List.length_eq_zero_iff, daysT, List.filter_eq_nil_iff]
  intro n _
  rw [act_one, liveD, okD, h, Bool.and_false, Bool.false_and]; simp
theorem none_days : (daysT [] 0 146096).length = 0 := by
  rw [List.length_eq_zero_iff, daysT, List.filter_eq_nil_iff]
  intro n _
  rw [actB, actM_zero.2 (fun i h => by simp at h)]; simp
theorem last_pos {c : Cl} {d : Int} {b : Bool} (h : LastIs [c] d b) : b = decide (0 < ((daysT [c] 0 146096).length : Int)) := by
  rcases h with ⟨rfl, h0, h1, h2, -⟩ | ⟨rfl, -, h2⟩
  · have hm : d ∈ daysT [c] 0 146096 := daysT_mem.2 ⟨⟨h0, by omega⟩, h2⟩
    have := List.length_pos_of_mem hm
    exact (decide_eq_true (by omega)).symm
  · have : daysT [c] 0 146096 = [] := by
      rw [daysT, List.filter_eq_nil_iff]
      intro n _
      rw [h2 n]; simp
    rw [this]; rfl

theorem eCls : El Try.prog 73 28 (.agg zL.toArray) 30 240 := ⟨Try.underlying73, by kernel_rfl, by kernel_rfl, by decide⟩
theorem clList_one (c : Cl) : ∀ u ∈ clList c, u.oneCell' = true := by
  intro u hu
  simp only [clList, List.mem_cons, List.not_mem_nil, or_false] at hu
  rcases hu with rfl | rfl | rfl | rfl | rfl | rfl | rfl | rfl | rfl | rfl | rfl | rfl | rfl | rfl | rfl | rfl | rfl | rfl | rfl | rfl | rfl | rfl | rfl | rfl | rfl | rfl | rfl | rfl | rfl | rfl <;> rfl
theorem cls_one (l : List Cl) : ∀ u ∈ cls l, u.oneCell' = true := by
  intro u hu
  rw [cls, List.mem_flatMap] at hu
  obtain ⟨c, -, h⟩ := hu
  exact clList_one c u h
theorem Few_any (a : Option Addr) (cap : Nat) (l : List Cl) (w : World) (h : l.length ≤ 9223372036854775807) : Calls Try.prog 46 #[.slice a l.length cap] w fun e w' => e = .returned (.bool (decide (l.length ≤ 8))) ∧ w = w' := by
  by_cases h8 : l.length ≤ 8
  · rw [decide_eq_true h8]
    have h8I : decide ((l.length : Int) ≤ 8) = true := decide_eq_true (by omega)
    have h8J : (l.length : Int) ≤ 8 := by omega
    go_enter Try.func46, Try.ntmps46
    go_wp2
    go_ret
    exact ⟨rfl, rfl⟩
  · rw [decide_eq_false h8]
    have h8I : ¬ (l.length : Int) ≤ 8 := by omega
    go_enter Try.func46, Try.ntmps46
    go_wp2
    go_ret
    exact ⟨rfl, rfl⟩
structure DmF (w : World) (l : List Cl) (c : Cl) (a a2 : Option Addr) (W : World) : Prop where
  s1 : Sl W a (cls l)
  s2 : Sl W a2 (cls (l ++ [c]))
  cb : ClB W w.heap.size c
  be : Below w.heap.size w W
  l : w.heap.size < W.heap.size
theorem DmF.keep {w W W' : World} {l : List Cl} {c : Cl} {a a2 : Option Addr} (h : DmF w l c a a2 W) (hb : Below W.heap.size W W') : DmF w l c a a2 W' :=
  ⟨h.s1.below hb, h.s2.below hb, h.cb.below hb h.l, h.be.trans (hb.mono (by have := h.l; omega)), Nat.lt_of_lt_of_le h.l hb.size⟩
abbrev DmP (w : World) (l : List Cl) (c : Cl) (a a2 : Option Addr) (W : World) : Prop := (loadClS (.pointer (some ⟨w.heap.size, 0, none⟩))).run Try.prog W = .ok (clv c) W ∧ DmF w l c a a2 W
theorem DmF.p {w W : World} {l : List Cl} {c : Cl} {a a2 : Option Addr} (h : DmF w l c a a2 W) : DmP w l c a a2 W := ⟨h.cb.ld, h⟩
theorem dm_new {W : World} (c : Cl) : Sl (W.alloc (.cells (clList c).toArray 28)) (some ⟨W.heap.size, 0, none⟩) (cls [c]) := by
  rw [show cls [c] = clList c from List.append_nil _]
  exact sl_range (range_new W _ _) (by simp)
theorem dm_at {w W : World} {l : List Cl} {a a2 : Option Addr} (c : Cl) (h : DmF w l c a a2 W) : Sl (W.alloc (.cells (clList c).toArray 28)) (some ⟨W.heap.size, 0, none⟩) (cls [c]) := dm_new c
attribute [local go_sem ↓] loadAt_cl
set_option maxRecDepth 100000 in
set_option maxHeartbeats 6400000 in
theorem DayMore_walk (a : Option Addr) (cap : Nat) (l : List Cl) (c : Cl) (w : World) (hl : l.length ≤ 9223372036854775807) (hlc : l.length ≤ cap) (hs : Sl w a (cls l)) (hok : ∀ c ∈ l, c.Ok) (hno : a = none → cap = 0) (hc : c.Ok) :
    Calls Try.prog 12 #[.slice a l.length cap, clv c] w fun e w' => e = .returned (.bool true) ∧ Below w.heap.size w w' := by
  have cV := hid (fun W => Lives14_any W)
  have cF := hid (fun W => Few_any a cap l W hl)
  obtain ⟨W0, hW0⟩ : ∃ W, w.alloc (.cells (clList c).toArray 28) = W := ⟨_, rfl⟩
  have z0 : W0.heap.size = w.heap.size + 1 := by rw [← hW0]; simp
  have b0 : Below w.heap.size w W0 := by rw [← hW0]; exact below_new (Below.refl _ _) (Nat.le_refl _)
  have c0 : ClB W0 w.heap.size c := by rw [← hW0]; exact clB_new w c _
  have HW0 := hid hW0
  by_cases h8 : l.length ≤ 8
  rotate_left
  · rw [decide_eq_false h8] at cF
    clear hs hok hno hW0 z0 c0 h8
    have HB0 := hid b0
    go_enter Try.func12, Try.ntmps12
    go_upto_region 1 with fail
    rw [HW0.out]
    clear b0
    go_wp2_with ((refine (cF.out _).mono ?_); rintro e w' ⟨rfl, rfl⟩)
    refine (cV.out _).mono ?_
    rintro e w1 ⟨rfl, hB1⟩
    have HB1 := hid (HB0.out.trans (hB1.mono HB0.out.size))
    clear hB1
    go_wp2
    go_ret
    exact ⟨rfl, HB1.out⟩
  rw [decide_eq_true h8] at cF
  obtain ⟨m1, m2, m3⟩ := more_laws (c := c) h8
  have hok2 : ∀ x ∈ l ++ [c], x.Ok := fun x hx => by
    rcases List.mem_append.1 hx with h | h
    · exact hok x h
    · rw [List.mem_singleton] at h; rw [h]; exact hc
  have kA := hid (fun W (h : Sl W a (cls l)) => Count_any a cap l W hl h hok)
  have kB := hid (fun a2 cap2 W (h : Sl W a2 (cls (l ++ [c]))) => Count_any a2 cap2 (l ++ [c]) W (by simp; omega) h hok2)
  have kC := hid (fun ad W (h : Sl W ad (cls [c])) => Count_any ad 1 [c] W (by simp) h (fun x hx => by rw [List.mem_singleton] at hx; rw [hx]; exact hc))
  have kL := hid (fun ad W (h : Sl W ad (cls [c])) => Last_any ad 1 [c] W (by simp) h (fun x hx => by rw [List.mem_singleton] at hx; rw [hx]; exact hc))
  have kN := hid (fun W => Count_any none 0 [] W (by simp) (Sl.nil _ _) (fun x hx => by simp at hx))
  have kM := hid (fun W => CMayCl_any c W hc)
  have hpos := hid (fun d b (h : LastIs [c] d b) => last_pos h)
  have hmay := hid (fun h => one_may (c := c) h)
  rw [none_days] at kN
  obtain ⟨A, hA⟩ : ∃ x, (daysT l 0 146096).length = x := ⟨_, rfl⟩
  obtain ⟨B, hB⟩ : ∃ x, (daysT (l ++ [c]) 0 146096).length = x := ⟨_, rfl⟩
  obtain ⟨D, hD⟩ : ∃ x, (daysT [c] 0 146096).length = x := ⟨_, rfl⟩
  rw [hA] at m1 m2 kA
  rw [hB] at m1 m2 m3 kB
  rw [hD] at m2 m3 kC hpos hmay
  have Hs := hid hs
  have Hno := hid hno
  have Hlc := hid (cls_length l)
  have Hone := hid (cls_one l)
  have HC1 := hid (clList_one c)
  have HB0 := hid b0
  have HC0 := hid c0
  have Z0 := hid z0
  have Hcat : Hid (cls l ++ clList c = cls (l ++ [c])) := by show _ = _; simp [cls]
  have bAD : Hid (A ≤ 146097 ∧ D ≤ 146097) := by
    have h1 := daysT_len l 0 146096
    have h2 := daysT_len [c] 0 146096
    rw [hA] at h1
    rw [hD] at h2
    exact ⟨by omega, by omega⟩
  have M1 := hid m1
  have M2 := hid m2
  have M3 := hid m3
  clear hs hok hno hW0 z0 c0 b0 hok2 hA hB hD m1 m2 m3 hc
  go_enter Try.func12, Try.ntmps12
  go_upto_region 1 with fail
  rw [HW0.out]
  go_wp2_with (first
    | ((with_reducible refine (cF.out _).mono ?_); rintro e w' ⟨rfl, rfl⟩)
    | (at_builtin; refine appN eCls (.tmp 15) (.tmp 16) rfl rfl rfl rfl (World.ownsRow_nil _ (w.heap.size + 1) _ _) Hlc.out (Hs.out.below HB0.out) Hno.out Hone.out (by omega) (by omega) (by have := Z0.out; omega) ?_))
  intro a1 cap1 w1 h1 h2 h3 h4
  have HO1 := hid h1
  have HB1 := hid h3
  have HS1 := hid h3.size
  clear h1 h2 h3 h4
  have hs2 := hid ((Hs.out.below HB0.out).below (HB1.out.mono (by have := Z0.out; omega)))
  have hz1 : w.heap.size + 1 ≤ w1.heap.size := by have := Z0.out; have := HS1.out; omega
  have hcb1 := hid (HC0.out.below HB1.out (by omega))
  have l1 := hcb1.out.ld
  go_wp2_with (at_builtin; refine appLit eCls (.tmp 18) (.tmp 20) rfl rfl rfl rfl rfl HO1.out rfl HC1.out (by omega) (by omega) hz1 ?_)
  intro a2 cap2 w2 h1 h2 h3 h4
  have HF2 : Hid (DmF w l c a a2 w2.drew) := by
    have hb : Below (w.heap.size + 1) W0 w2 := HB1.out.trans h3
    have hb2 : Below w.heap.size w w2 := HB0.out.trans (hb.mono (by omega))
    have hsz := h2.size
    have hF : DmF w l c a a2 w2 := ⟨Hs.out.below hb2, by rw [← Hcat.out]; exact owns_sl h1, HC0.out.below hb (by omega), hb2, by omega⟩
    exact hF.keep (Below.refl _ _).drew
  have HP2 := hid HF2.out.p
  have kB' := hid (fun W h => kB.out a2 cap2 W h)
  simp only [List.length_append, List.length_cons, List.length_nil, Nat.zero_add] at kB'
  have kL' : Hid (∀ (ad : Option Addr) W, Sl W ad (cls [c]) → Calls Try.prog 53 #[.slice ad 1 1] W fun e w' => LastR [c] e ∧ Below W.heap.size W w') := fun ad W h => kL.out ad W h
  have kN' : Hid (∀ W, Calls Try.prog 52 #[.slice none 0 0] W fun e w' => e = .returned (.int .i64 0) ∧ Below W.heap.size W w') := fun W => kN.out W
  obtain ⟨bA, bD⟩ := bAD.out
  clear h1 h2 h3 h4 l1 hs2 hcb1
  go_upto_region 6 with fail
  refine wp_region_held_drew (S := fun w' => DmP w l c a a2 w') (by kernel_rfl) HP2.out (fun hHeld => ?_)
  refine wpAnyH_take (i := 0) (v := ?_) rfl (by kernel_rfl) (by kernel_rfl) (by kernel_rfl) (fun _ _ _ h => h) (Or.inl ⟨by rfl, ?_⟩) (by assumption) ?_
  rotate_left
  · intro w hSw; go_simp; (try with_reducible rfl)
  (try simp only [Act.put, List.getElem_toArray, List.getElem_cons_zero, List.setIfInBounds_toArray, List.set_cons_zero, List.set_cons_succ])
  refine wpAnyH_take (i := 2) (v := ?_) rfl (by kernel_rfl) (by kernel_rfl) (by kernel_rfl) (fun _ _ _ h => h) (Or.inl ⟨by rfl, ?_⟩) (by assumption) ?_
  rotate_left
  · intro w hSw; go_simp; (try with_reducible rfl)
  (try simp only [Act.put, List.getElem_toArray, List.getElem_cons_succ, List.getElem_cons_zero, List.setIfInBounds_toArray, List.set_cons_zero, List.set_cons_succ])
  refine wpAnyH_take (i := 4) (v := ?_) rfl (by kernel_rfl) (by kernel_rfl) (by kernel_rfl) (fun _ _ _ h => h) (Or.inl ⟨by rfl, ?_⟩) (by assumption) ?_
  rotate_left
  · intro w hSw; go_simp; (try with_reducible rfl)
  (try simp only [Act.put, List.getElem_toArray, List.getElem_cons_succ, List.getElem_cons_zero, List.setIfInBounds_toArray, List.set_cons_zero, List.set_cons_succ])
  refine wpAnyH_ready (rs := [1, 5]) (by kernel_rfl) (by simp) ?_
  refine (AllReadyH.cons rfl (fun K hK => ?_) (AllReadyH.cons rfl (fun K hK => ?_) AllReadyH.nil))
  · go_simp
    refine (kA.out _ HF2.out.s1).mono ?_
    rintro e y1 ⟨rfl, hB1⟩
    have HF1n := hid (HF2.out.keep hB1)
    clear hB1
    (try go_wp2_with fail)
    refine hK.out _ _ HF1n.out.p (fun hHeld => ?_)
    clear hK K
    (try simp only [Act.put, List.getElem_toArray, List.getElem_cons_succ, List.getElem_cons_zero, List.setIfInBounds_toArray, List.set_cons_zero, List.set_cons_succ])
    refine wpAnyH_ready (rs := [3, 5]) (by kernel_rfl) (by simp) ?_
    refine (AllReadyH.cons rfl (fun K hK => ?_) (AllReadyH.cons rfl (fun K hK => ?_) AllReadyH.nil))
    · go_simp
      refine (kB'.out _ HF1n.out.s2).mono ?_
      rintro e y2 ⟨rfl, hB2⟩
      have HF2n := hid (HF1n.out.keep hB2)
      clear hB2
      (try go_wp2_with fail)
      refine hK.out _ _ HF2n.out.p (fun hHeld => ?_)
      clear hK K
      (try simp only [Act.put, List.getElem_toArray, List.getElem_cons_succ, List.getElem_cons_zero, List.setIfInBounds_toArray, List.set_cons_zero, List.set_cons_succ])
      refine wpAnyH_ready (rs := [5]) (by kernel_rfl) (by simp) ?_
      refine (AllReadyH.cons rfl (fun K hK => ?_) AllReadyH.nil)
      go_simp
      have HF3n := hid (HF2n.out.keep (below_new (o := .cells (clList c).toArray 28) (Below.refl _ _) (Nat.le_refl _)))
      have HK3 := hid (dm_at c HF2n.out)
      refine hK.out _ _ HF3n.out.p (fun hHeld => ?_)
      clear hK K
      (try simp only [Act.put, List.getElem_toArray, List.getElem_cons_succ, List.getElem_cons_zero, List.setIfInBounds_toArray, List.set_cons_zero, List.set_cons_succ])
      refine wpAnyH_ready (rs := [6]) (by kernel_rfl) (by simp) ?_
      refine (AllReadyH.cons rfl (fun K hK => ?_) AllReadyH.nil)
      go_simp
      refine (kC.out _ _ HK3.out).mono ?_
      rintro e y4 ⟨rfl, hB4⟩
      have HF4n := hid (HF3n.out.keep hB4)
      have HK4 := hid (HK3.out.below hB4)
      clear hB4
      (try go_wp2_with fail)
      refine hK.out _ _ HF4n.out.p (fun hHeld => ?_)
      clear hK K
      (try simp only [Act.put, List.getElem_toArray, List.getElem_cons_succ, List.getElem_cons_zero, List.setIfInBounds_toArray, List.set_cons_zero, List.set_cons_succ])
      refine wpAnyH_take (i := 7) (v := ?_) rfl (by kernel_rfl) (by kernel_rfl) (by kernel_rfl) (fun _ _ _ h => h) (Or.inl ⟨by rfl, ?_⟩) (by assumption) ?_
      rotate_left
      · intro w hSw; go_simp; (try with_reducible rfl)
      (try simp only [Act.put, List.getElem_toArray, List.getElem_cons_succ, List.getElem_cons_zero, List.setIfInBounds_toArray, List.set_cons_zero, List.set_cons_succ])
      refine wpAnyH_take (i := 8) (v := ?_) rfl (by kernel_rfl) (by kernel_rfl) (by kernel_rfl) (fun _ _ _ h => h) (Or.inl ⟨by rfl, ?_⟩) (by assumption) ?_
      rotate_left
      · intro w hSw; go_simp; (try with_reducible rfl)
      (try simp only [Act.put, List.getElem_toArray, List.getElem_cons_succ, List.getElem_cons_zero, List.setIfInBounds_toArray, List.set_cons_zero, List.set_cons_succ])
      refine wpAnyH_take (i := 9) (v := ?_) rfl (by kernel_rfl) (by kernel_rfl) (by kernel_rfl) (fun _ _ _ h => h) (Or.inl ⟨by rfl, ?_⟩) (by assumption) ?_
      rotate_left
      · intro w hSw; go_simp; (try with_reducible rfl)
      (try simp only [Act.put, List.getElem_toArray, List.getElem_cons_succ, List.getElem_cons_zero, List.setIfInBounds_toArray, List.set_cons_zero, List.set_cons_succ])
      refine wpAnyH_done (by kernel_rfl) ?_ _
      have l3 := HF4n.out.cb.ld
      have HL := hid (kL'.out _ _ (dm_at c HF4n.out))
      have HN := hid (HF4n.out.keep (below_new (o := .cells (clList c).toArray 28) (Below.refl _ _) (Nat.le_refl _)))
      go_wp2_with fail
      refine HL.out.mono ?_
      rintro e x1 ⟨⟨dd, bb, rfl, hI⟩, hB1⟩
      have hbb := hpos.out _ _ hI
      have HX := hid (HN.out.keep hB1)
      have l4 := HX.out.cb.ld
      clear hI hB1 l3
      rcases Nat.eq_zero_or_pos D with h0 | h0
      · subst h0
        obtain rfl : bb = false := hbb
        (try clear hbb)
        have e2 : B ≤ A := by have := M2.out; omega
        have e1 : A ≤ B := M1.out
        cases hm : mayC c
        · rw [hm] at kM
          clear hm
          go_wp2_with fail
          refine (kM.out _).mono ?_
          rintro e x2 ⟨rfl, hB2⟩
          have HX2 := hid (HX.out.keep hB2)
          clear hB2 l4
          go_wp2_with fail
          refine (kN'.out _).mono ?_
          rintro e x3 ⟨rfl, hB3⟩
          have HX3 := hid (HX2.out.keep hB3)
          clear hB3
          go_wp2_with fail
          refine (cV.out _).mono ?_
          rintro e x4 ⟨rfl, hB4⟩
          have HX4 := hid (HX3.out.keep hB4)
          clear hB4
          go_wp2
          go_ret
          exact ⟨rfl, HX4.out.be⟩
        · rw [hm] at kM
          clear hm
          go_wp2_with fail
          refine (kM.out _).mono ?_
          rintro e x2 ⟨rfl, hB2⟩
          have HX2 := hid (HX.out.keep hB2)
          clear hB2 l4
          go_wp2_with fail
          refine (kN'.out _).mono ?_
          rintro e x3 ⟨rfl, hB3⟩
          have HX3 := hid (HX2.out.keep hB3)
          clear hB3
          go_wp2_with fail
          refine (cV.out _).mono ?_
          rintro e x4 ⟨rfl, hB4⟩
          have HX4 := hid (HX3.out.keep hB4)
          clear hB4
          go_wp2
          go_ret
          exact ⟨rfl, HX4.out.be⟩
      · obtain rfl : bb = true := hbb.trans (decide_eq_true (by omega))
        have hm : mayC c = true := by
          cases h : mayC c
          · have := hmay.out h; omega
          · rfl
        rw [hm] at kM
        have e1 : A ≤ B := M1.out
        have e2 : B ≤ A + D := M2.out
        have e3 : D ≤ B := M3.out
        have h0I : (0 : Int) < D := by omega
        have e2I : (B : Int) ≤ A + D := by omega
        clear hm hbb
        go_wp2_with fail
        refine (kM.out _).mono ?_
        rintro e x2 ⟨rfl, hB2⟩
        have HX2 := hid (HX.out.keep hB2)
        clear hB2 l4
        go_wp2_with fail
        refine (kN'.out _).mono ?_
        rintro e x3 ⟨rfl, hB3⟩
        have HX3 := hid (HX2.out.keep hB3)
        clear hB3
        go_wp2_with fail
        refine (cV.out _).mono ?_
        rintro e x4 ⟨rfl, hB4⟩
        have HX4 := hid (HX3.out.keep hB4)
        clear hB4
        go_wp2
        go_ret
        exact ⟨rfl, HX4.out.be⟩
    · go_simp
      have HF5n := hid (HF1n.out.keep (below_new (o := .cells (clList c).toArray 28) (Below.refl _ _) (Nat.le_refl _)))
      have HK5 := hid (dm_at c HF1n.out)
      refine hK.out _ _ HF5n.out.p (fun hHeld => ?_)
      clear hK K
      (try simp only [Act.put, List.getElem_toArray, List.getElem_cons_succ, List.getElem_cons_zero, List.setIfInBounds_toArray, List.set_cons_zero, List.set_cons_succ])
      refine wpAnyH_ready (rs := [3]) (by kernel_rfl) (by simp) ?_
      refine (AllReadyH.cons rfl (fun K hK => ?_) AllReadyH.nil)
      go_simp
      refine (kB'.out _ HF5n.out.s2).mono ?_
      rintro e y6 ⟨rfl, hB6⟩
      have HF6n := hid (HF5n.out.keep hB6)
      have HK6 := hid (HK5.out.below hB6)
      clear hB6
      (try go_wp2_with fail)
      refine hK.out _ _ HF6n.out.p (fun hHeld => ?_)
      clear hK K
      (try simp only [Act.put, List.getElem_toArray, List.getElem_cons_succ, List.getElem_cons_zero, List.setIfInBounds_toArray, List.set_cons_zero, List.set_cons_succ])
      refine wpAnyH_ready (rs := [6]) (by kernel_rfl) (by simp) ?_
      refine (AllReadyH.cons rfl (fun K hK => ?_) AllReadyH.nil)
      go_simp
      refine (kC.out _ _ HK6.out).mono ?_
      rintro e y7 ⟨rfl, hB7⟩
      have HF7n := hid (HF6n.out.keep hB7)
      have HK7 := hid (HK6.out.below hB7)
      clear hB7
      (try go_wp2_with fail)
      refine hK.out _ _ HF7n.out.p (fun hHeld => ?_)
      clear hK K
      (try simp only [Act.put, List.getElem_toArray, List.getElem_cons_succ, List.getElem_cons_zero, List.setIfInBounds_toArray, List.set_cons_zero, List.set_cons_succ])
      refine wpAnyH_take (i := 7) (v := ?_) rfl (by kernel_rfl) (by kernel_rfl) (by kernel_rfl) (fun _ _ _ h => h) (Or.inl ⟨by rfl, ?_⟩) (by assumption) ?_
      rotate_left
      · intro w hSw; go_simp; (try with_reducible rfl)
      (try simp only [Act.put, List.getElem_toArray, List.getElem_cons_succ, List.getElem_cons_zero, List.setIfInBounds_toArray, List.set_cons_zero, List.set_cons_succ])
      refine wpAnyH_take (i := 8) (v := ?_) rfl (by kernel_rfl) (by kernel_rfl) (by kernel_rfl) (fun _ _ _ h => h) (Or.inl ⟨by rfl, ?_⟩) (by assumption) ?_
      rotate_left
      · intro w hSw; go_simp; (try with_reducible rfl)
      (try simp only [Act.put, List.getElem_toArray, List.getElem_cons_succ, List.getElem_cons_zero, List.setIfInBounds_toArray, List.set_cons_zero, List.set_cons_succ])
      refine wpAnyH_take (i := 9) (v := ?_) rfl (by kernel_rfl) (by kernel_rfl) (by kernel_rfl) (fun _ _ _ h => h) (Or.inl ⟨by rfl, ?_⟩) (by assumption) ?_
      rotate_left
      · intro w hSw; go_simp; (try with_reducible rfl)
      (try simp only [Act.put, List.getElem_toArray, List.getElem_cons_succ, List.getElem_cons_zero, List.setIfInBounds_toArray, List.set_cons_zero, List.set_cons_succ])
      refine wpAnyH_done (by kernel_rfl) ?_ _
      have l3 := HF7n.out.cb.ld
      have HL := hid (kL'.out _ _ (dm_at c HF7n.out))
      have HN := hid (HF7n.out.keep (below_new (o := .cells (clList c).toArray 28) (Below.refl _ _) (Nat.le_refl _)))
      go_wp2_with fail
      refine HL.out.mono ?_
      rintro e x1 ⟨⟨dd, bb, rfl, hI⟩, hB1⟩
      have hbb := hpos.out _ _ hI
      have HX := hid (HN.out.keep hB1)
      have l4 := HX.out.cb.ld
      clear hI hB1 l3
      rcases Nat.eq_zero_or_pos D with h0 | h0
      · subst h0
        obtain rfl : bb = false := hbb
        (try clear hbb)
        have e2 : B ≤ A := by have := M2.out; omega
        have e1 : A ≤ B := M1.out
        cases hm : mayC c
        · rw [hm] at kM
          clear hm
          go_wp2_with fail
          refine (kM.out _).mono ?_
          rintro e x2 ⟨rfl, hB2⟩
          have HX2 := hid (HX.out.keep hB2)
          clear hB2 l4
          go_wp2_with fail
          refine (kN'.out _).mono ?_
          rintro e x3 ⟨rfl, hB3⟩
          have HX3 := hid (HX2.out.keep hB3)
          clear hB3
          go_wp2_with fail
          refine (cV.out _).mono ?_
          rintro e x4 ⟨rfl, hB4⟩
          have HX4 := hid (HX3.out.keep hB4)
          clear hB4
          go_wp2
          go_ret
          exact ⟨rfl, HX4.out.be⟩
        · rw [hm] at kM
          clear hm
          go_wp2_with fail
          refine (kM.out _).mono ?_
          rintro e x2 ⟨rfl, hB2⟩
          have HX2 := hid (HX.out.keep hB2)
          clear hB2 l4
          go_wp2_with fail
          refine (kN'.out _).mono ?_
          rintro e x3 ⟨rfl, hB3⟩
          have HX3 := hid (HX2.out.keep hB3)
          clear hB3
          go_wp2_with fail
          refine (cV.out _).mono ?_
          rintro e x4 ⟨rfl, hB4⟩
          have HX4 := hid (HX3.out.keep hB4)
          clear hB4
          go_wp2
          go_ret
          exact ⟨rfl, HX4.out.be⟩
      · obtain rfl : bb = true := hbb.trans (decide_eq_true (by omega))
        have hm : mayC c = true := by
          cases h : mayC c
          · have := hmay.out h; omega
          · rfl
        rw [hm] at kM
        have e1 : A ≤ B := M1.out
        have e2 : B ≤ A + D := M2.out
        have e3 : D ≤ B := M3.out
        have h0I : (0 : Int) < D := by omega
        have e2I : (B : Int) ≤ A + D := by omega
        clear hm hbb
        go_wp2_with fail
        refine (kM.out _).mono ?_
        rintro e x2 ⟨rfl, hB2⟩
        have HX2 := hid (HX.out.keep hB2)
        clear hB2 l4
        go_wp2_with fail
        refine (kN'.out _).mono ?_
        rintro e x3 ⟨rfl, hB3⟩
        have HX3 := hid (HX2.out.keep hB3)
        clear hB3
        go_wp2_with fail
        refine (cV.out _).mono ?_
        rintro e x4 ⟨rfl, hB4⟩
        have HX4 := hid (HX3.out.keep hB4)
        clear hB4
        go_wp2
        go_ret
        exact ⟨rfl, HX4.out.be⟩
  · go_simp
    have HF8n := hid (HF2.out.keep (below_new (o := .cells (clList c).toArray 28) (Below.refl _ _) (Nat.le_refl _)))
    have HK8 := hid (dm_at c HF2.out)
    refine hK.out _ _ HF8n.out.p (fun hHeld => ?_)
    clear hK K
    (try simp only [Act.put, List.getElem_toArray, List.getElem_cons_succ, List.getElem_cons_zero, List.setIfInBounds_toArray, List.set_cons_zero, List.set_cons_succ])
    refine wpAnyH_ready (rs := [1]) (by kernel_rfl) (by simp) ?_
    refine (AllReadyH.cons rfl (fun K hK => ?_) AllReadyH.nil)
    go_simp
    refine (kA.out _ HF8n.out.s1).mono ?_
    rintro e y9 ⟨rfl, hB9⟩
    have HF9n := hid (HF8n.out.keep hB9)
    have HK9 := hid (HK8.out.below hB9)
    clear hB9
    (try go_wp2_with fail)
    refine hK.out _ _ HF9n.out.p (fun hHeld => ?_)
    clear hK K
    (try simp only [Act.put, List.getElem_toArray, List.getElem_cons_succ, List.getElem_cons_zero, List.setIfInBounds_toArray, List.set_cons_zero, List.set_cons_succ])
    refine wpAnyH_ready (rs := [3]) (by kernel_rfl) (by simp) ?_
    refine (AllReadyH.cons rfl (fun K hK => ?_) AllReadyH.nil)
    go_simp
    refine (kB'.out _ HF9n.out.s2).mono ?_
    rintro e y10 ⟨rfl, hB10⟩
    have HF10n := hid (HF9n.out.keep hB10)
    have HK10 := hid (HK9.out.below hB10)
    clear hB10
    (try go_wp2_with fail)
    refine hK.out _ _ HF10n.out.p (fun hHeld => ?_)
    clear hK K
    (try simp only [Act.put, List.getElem_toArray, List.getElem_cons_succ, List.getElem_cons_zero, List.setIfInBounds_toArray, List.set_cons_zero, List.set_cons_succ])
    refine wpAnyH_ready (rs := [6]) (by kernel_rfl) (by simp) ?_
    refine (AllReadyH.cons rfl (fun K hK => ?_) AllReadyH.nil)
    go_simp
    refine (kC.out _ _ HK10.out).mono ?_
    rintro e y11 ⟨rfl, hB11⟩
    have HF11n := hid (HF10n.out.keep hB11)
    have HK11 := hid (HK10.out.below hB11)
    clear hB11
    (try go_wp2_with fail)
    refine hK.out _ _ HF11n.out.p (fun hHeld => ?_)
    clear hK K
    (try simp only [Act.put, List.getElem_toArray, List.getElem_cons_succ, List.getElem_cons_zero, List.setIfInBounds_toArray, List.set_cons_zero, List.set_cons_succ])
    refine wpAnyH_take (i := 7) (v := ?_) rfl (by kernel_rfl) (by kernel_rfl) (by kernel_rfl) (fun _ _ _ h => h) (Or.inl ⟨by rfl, ?_⟩) (by assumption) ?_
    rotate_left
    · intro w hSw; go_simp; (try with_reducible rfl)
    (try simp only [Act.put, List.getElem_toArray, List.getElem_cons_succ, List.getElem_cons_zero, List.setIfInBounds_toArray, List.set_cons_zero, List.set_cons_succ])
    refine wpAnyH_take (i := 8) (v := ?_) rfl (by kernel_rfl) (by kernel_rfl) (by kernel_rfl) (fun _ _ _ h => h) (Or.inl ⟨by rfl, ?_⟩) (by assumption) ?_
    rotate_left
    · intro w hSw; go_simp; (try with_reducible rfl)
    (try simp only [Act.put, List.getElem_toArray, List.getElem_cons_succ, List.getElem_cons_zero, List.setIfInBounds_toArray, List.set_cons_zero, List.set_cons_succ])
    refine wpAnyH_take (i := 9) (v := ?_) rfl (by kernel_rfl) (by kernel_rfl) (by kernel_rfl) (fun _ _ _ h => h) (Or.inl ⟨by rfl, ?_⟩) (by assumption) ?_
    rotate_left
    · intro w hSw; go_simp; (try with_reducible rfl)
    (try simp only [Act.put, List.getElem_toArray, List.getElem_cons_succ, List.getElem_cons_zero, List.setIfInBounds_toArray, List.set_cons_zero, List.set_cons_succ])
    refine wpAnyH_done (by kernel_rfl) ?_ _
    have l3 := HF11n.out.cb.ld
    have HL := hid (kL'.out _ _ (dm_at c HF11n.out))
    have HN := hid (HF11n.out.keep (below_new (o := .cells (clList c).toArray 28) (Below.refl _ _) (Nat.le_refl _)))
    go_wp2_with fail
    refine HL.out.mono ?_
    rintro e x1 ⟨⟨dd, bb, rfl, hI⟩, hB1⟩
    have hbb := hpos.out _ _ hI
    have HX := hid (HN.out.keep hB1)
    have l4 := HX.out.cb.ld
    clear hI hB1 l3
    rcases Nat.eq_zero_or_pos D with h0 | h0
    · subst h0
      obtain rfl : bb = false := hbb
      (try clear hbb)
      have e2 : B ≤ A := by have := M2.out; omega
      have e1 : A ≤ B := M1.out
      cases hm : mayC c
      · rw [hm] at kM
        clear hm
        go_wp2_with fail
        refine (kM.out _).mono ?_
        rintro e x2 ⟨rfl, hB2⟩
        have HX2 := hid (HX.out.keep hB2)
        clear hB2 l4
        go_wp2_with fail
        refine (kN'.out _).mono ?_
        rintro e x3 ⟨rfl, hB3⟩
        have HX3 := hid (HX2.out.keep hB3)
        clear hB3
        go_wp2_with fail
        refine (cV.out _).mono ?_
        rintro e x4 ⟨rfl, hB4⟩
        have HX4 := hid (HX3.out.keep hB4)
        clear hB4
        go_wp2
        go_ret
        exact ⟨rfl, HX4.out.be⟩
      · rw [hm] at kM
        clear hm
        go_wp2_with fail
        refine (kM.out _).mono ?_
        rintro e x2 ⟨rfl, hB2⟩
        have HX2 := hid (HX.out.keep hB2)
        clear hB2 l4
        go_wp2_with fail
        refine (kN'.out _).mono ?_
        rintro e x3 ⟨rfl, hB3⟩
        have HX3 := hid (HX2.out.keep hB3)
        clear hB3
        go_wp2_with fail
        refine (cV.out _).mono ?_
        rintro e x4 ⟨rfl, hB4⟩
        have HX4 := hid (HX3.out.keep hB4)
        clear hB4
        go_wp2
        go_ret
        exact ⟨rfl, HX4.out.be⟩
    · obtain rfl : bb = true := hbb.trans (decide_eq_true (by omega))
      have hm : mayC c = true := by
        cases h : mayC c
        · have := hmay.out h; omega
        · rfl
      rw [hm] at kM
      have e1 : A ≤ B := M1.out
      have e2 : B ≤ A + D := M2.out
      have e3 : D ≤ B := M3.out
      have h0I : (0 : Int) < D := by omega
      have e2I : (B : Int) ≤ A + D := by omega
      clear hm hbb
      go_wp2_with fail
      refine (kM.out _).mono ?_
      rintro e x2 ⟨rfl, hB2⟩
      have HX2 := hid (HX.out.keep hB2)
      clear hB2 l4
      go_wp2_with fail
      refine (kN'.out _).mono ?_
      rintro e x3 ⟨rfl, hB3⟩
      have HX3 := hid (HX2.out.keep hB3)
      clear hB3
      go_wp2_with fail
      refine (cV.out _).mono ?_
      rintro e x4 ⟨rfl, hB4⟩
      have HX4 := hid (HX3.out.keep hB4)
      clear hB4
      go_wp2
      go_ret
      exact ⟨rfl, HX4.out.be⟩
end Go.Proofs.Ytndfckpcbiecnaa

/-
  ferialaw04.WideBack answers true for every list.
-/
import Derived.Test.YtdggflkkojmabaaDoorWideLives
import Derived.Test.YtdggflkkojmabaaDoorWideBothFun
import Derived.Test.YtdggflkkojmabaaDoorCollect2
import Derived.Shelf.Abstract
namespace Go.Proofs.YtdggflkkojmabaaDoor
open Go.RowKit
set_option linter.unusedVariables false

set_option maxHeartbeats 800000 in
theorem Coll71_any : CollCall 71 500 := by
  intro bg base k xs O W hk hl hJ
  obtain ⟨v, h1, h3, h4, h5, h8, g1, g3, g4⟩ := hJ
  obtain ⟨x, hx⟩ : ∃ x, xs[k] = x := ⟨_, rfl⟩
  have ht := hid (take_snoc xs k hk)
  rw [hx] at ht ⊢
  clear hx
  obtain ⟨a, cap, rfl, hs, hcap⟩ := owns_form h3
  have H3 := hid h3
  have G := hid (And.intro g1 (And.intro g3 g4))
  clear g1 g3 g4
  go_enter Tryd.func71, Tryd.ntmps71
  clear hs h3
  go_wp2_with (at_builtin; refine app1 eInt (.tmp 4) (.tmp 6) rfl rfl rfl rfl rfl H3.out rfl (by omega) (by omega) h8 ?_)
  intro a' cap' w' hown hg hb hf
  have e1 := grown_cell hg h1 (fun e => by have := owns_lt H3.out e; omega)
  have Hown := hid hown
  have Hf := hid hf
  have Hb := hid hb
  have Hg := hid hg
  have hfz : w'.frozen? ⟨bg, 0, none⟩ = false := (hb.frozen (p := ⟨bg, 0, none⟩) h5).trans h4
  clear hown hf hb hg h1 h4
  go_wp2
  obtain ⟨g1, g3, g4⟩ := G.out
  have hgr := Hg.out
  have hsz : W.heap.size ≤ w'.heap.size := hgr.size
  have hs2 : (w'.setCell ⟨bg, 0, none⟩ (.slice a' (k + 1) cap')).heap.size = w'.heap.size := by simp [go_sem]
  refine bodyPost_ret (v := .bool (decide ((k : Int) + 1 < 500))) (by simp [results, Tryd.results71, go_sem]) rfl ⟨fun b => O b ∨ (W.heap.size ≤ b ∧ b < w'.heap.size), fun b h => .inl h, fun b h => h.imp id (·.1), ?_, ?_, ?_⟩
  · refine ⟨hgr.os, hgr.tape, hgr.output, by omega, fun b hb hn => ?_⟩
    have hne : b ≠ bg := fun e => hn (e ▸ g1)
    rw [Below.heap_setCell _ _ _ _ hne]
    exact hgr.block b hb (fun e => hn (g3 b e.symm))
  · refine ⟨.slice a' (k + 1) cap', by simp [go_sem, e1], ?_, by simp [go_sem, hfz], h5, by omega, .inl g1, fun b hb => ?_, fun b hb => ?_⟩
    · rw [ht.out, ints_append, ints_one]; exact ownsRow_setCell_below Hown.out (by simpa using h5) _
    · rcases Hf.out b hb with h | h
      · exact .inl (g3 b h)
      · exact .inr ⟨h, (owns_lt Hown.out hb).2⟩
    · rcases hb with h | h
      · have := g4 b h; omega
      · omega
  · exact ret_bool (by rw [Bool.eq_iff_iff]; simp only [decide_eq_true_eq]; omega)
theorem inW_wof (l : List Int) (i : Nat) : inW (wof l) i = wof l i := by
  refine eq_mk (inW_lt i (wof_lt l i)) (fun k hk => ?_)
  rw [inW, Nat.testBit_and, fullW_test, wof, mk_test, inWB, Bool.eq_iff_iff]
  simp only [Bool.and_eq_true, decide_eq_true_eq]
  constructor
  · rintro ⟨⟨_, h1, h2⟩, _⟩; exact ⟨h1, h2⟩
  · rintro ⟨h1, h2⟩; exact ⟨⟨hk, h1, h2⟩, hk, h2⟩
theorem wof_wsel' (s : Nat → Nat) (i : Nat) (hi : i < 7) (hs : s i < 18446744073709551616) : wof (wsel s) i = inW s i := by
  refine (eq_mk (inW_lt i hs) (fun k hk => ?_)).symm
  rw [inW, Nat.testBit_and, fullW_test, inWB, Bool.eq_iff_iff]
  simp only [Bool.and_eq_true, decide_eq_true_eq, wsel, sel_mem]
  constructor
  · rintro ⟨h1, _, h2⟩
    exact ⟨⟨64 * i + k, h2, by rw [bitW, show (64 * i + k) / 64 = i by omega, show (64 * i + k) % 64 = k by omega]; exact h1, rfl⟩, h2⟩
  · rintro ⟨⟨j, h1, h2, h3⟩, h4⟩
    have : j = 64 * i + k := by omega
    subst this
    rw [bitW, show (64 * i + k) / 64 = i by omega, show (64 * i + k) % 64 = k by omega] at h2
    exact ⟨h2, hk, h4⟩

/-- what the statement's region reads -/
abbrev WbS (w : World) (b3 b5 : Nat) (s : Nat → Nat) (a : Option Addr) (cap : Nat) (xs : List Int) (W : World) : Prop :=
  W.cell? ⟨b3, 0, none⟩ = some (.int .u64 (s 0 : Nat)) ∧ W.cell? ⟨b3, 1, none⟩ = some (.int .u64 (s 1 : Nat)) ∧ W.cell? ⟨b3, 2, none⟩ = some (.int .u64 (s 2 : Nat)) ∧ W.cell? ⟨b3, 3, none⟩ = some (.int .u64 (s 3 : Nat)) ∧
  W.cell? ⟨b3, 4, none⟩ = some (.int .u64 (s 4 : Nat)) ∧ W.cell? ⟨b3, 5, none⟩ = some (.int .u64 (s 5 : Nat)) ∧ W.cell? ⟨b3, 6, none⟩ = some (.int .u64 (s 6 : Nat)) ∧ W.cell? ⟨b5, 0, none⟩ = some (.slice a xs.length cap) ∧
  Hid (Sl W a (ints xs) ∧ Below w.heap.size w W ∧ b3 < W.heap.size ∧ b5 < W.heap.size)
theorem WbS.keep {w W W' : World} {b3 b5 : Nat} {s : Nat → Nat} {a : Option Addr} {cap : Nat} {xs : List Int} (h : WbS w b3 b5 s a cap xs W) (hb : Below W.heap.size W W') : WbS w b3 b5 s a cap xs W' := by
  obtain ⟨h0, h1, h2, h3, h4, h5, h6, h7, h8⟩ := h
  obtain ⟨g1, g2, g3, g4⟩ := h8.out
  exact ⟨(hb.cell (p := ⟨b3, 0, none⟩) g3).trans h0, (hb.cell (p := ⟨b3, 1, none⟩) g3).trans h1, (hb.cell (p := ⟨b3, 2, none⟩) g3).trans h2, (hb.cell (p := ⟨b3, 3, none⟩) g3).trans h3,
    (hb.cell (p := ⟨b3, 4, none⟩) g3).trans h4, (hb.cell (p := ⟨b3, 5, none⟩) g3).trans h5, (hb.cell (p := ⟨b3, 6, none⟩) g3).trans h6, (hb.cell (p := ⟨b5, 0, none⟩) g4).trans h7,
    g1.below hb, g2.trans (hb.mono g2.size), Nat.lt_of_lt_of_le g3 hb.size, Nat.lt_of_lt_of_le g4 hb.size⟩
/-- sets laid into a new block -/
theorem sets_new (W : World) (L : List (Nat → Nat)) (t : TypeId) : Sl (W.alloc (.cells (sets L).toArray t)) (some ⟨W.heap.size, 0, none⟩) (sets L) :=
  .inr ⟨W.heap.size, 0, rfl, by simp, fun j hj => by simp [hj]⟩

set_option maxRecDepth 100000 in
set_option maxHeartbeats 8000000 in
theorem WideBack_walk (a : Option Addr) (cap : Nat) (l : List Int) (w : World) (hl : l.length ≤ 9223372036854775807) (_ : l.length ≤ cap) (hsl : Sl w a (ints l)) (_ : ∀ x ∈ l, -9223372036854775808 ≤ x ∧ x ≤ 9223372036854775807) (hT : Tab w) :
    Calls Tryd.prog 16 #[.slice a l.length cap] w fun e w' => e = .returned (.bool true) ∧ Below w.heap.size w w' := by
  have HT := hid hT
  have hT0 := hT.1
  have cL := hid (fun W (h : Below w.heap.size w W) => lives04_any W (HT.out.later h))
  clear hT
  by_cases h500 : 500 < l.length
  · have h5 : (500 : Int) < (l.length : Int) := by omega
    clear h500
    go_enter Tryd.func16, Tryd.ntmps16
    go_wp2_with fail
    refine (cL.out _ (Below.refl _ _)).mono ?_
    rintro e w1 ⟨rfl, hb1⟩
    go_wp2
    go_ret
    exact ⟨rfl, hb1⟩
  · have h5 : ¬ (500 : Int) < (l.length : Int) := by omega
    have hlt : ∀ i, i < 7 → wof l i < 18446744073709551616 := fun i _ => wof_lt l i
    have d1 := hid (WOf_any a cap l w hl hsl)
    have d2 := hid (fun W => WAll_any (wof l) W hlt)
    have d3 := hid (fun W => WMay_any (wof l) W hlt)
    have hin : ∀ i, i < 7 → inW (wof l) i = wof l i := fun i _ => inW_wof l i
    have hE1 : eqW (inW (wof l)) (wof l) = true := (eqW_iff _ _).mpr hin
    have hE2 : eqW (wof (wsel (wof l))) (wof l) = true := (eqW_iff _ _).mpr fun i hi => by rw [wof_wsel' _ i hi (hlt i hi), hin i hi]
    have hE3 : eqW (bothW [wof l, wof l]) (wof l) = true := (eqW_iff _ _).mpr fun i hi => by
      show fullW i &&& wof l i &&& wof l i = wof l i
      rw [Nat.and_assoc, Nat.and_self, Nat.and_comm]; exact hin i hi
    have hE4 : eqW (inW (someW [wof l])) (wof l) = true := (eqW_iff _ _).mpr fun i hi => by
      have : inW (someW [wof l]) i = inW (wof l) i := by
        show (0 ||| wof l i) &&& fullW i = wof l i &&& fullW i
        rw [Nat.zero_or]
      rw [this]; exact hin i hi
    rw [hE1] at d3
    have e2 := fun W => run_eql_wv (wof (wsel (wof l))) (wof l) W
    have e3 := fun W => run_eql_wv (bothW [wof l, wof l]) (wof l) W
    have e4 := fun W => run_eql_wv (inW (someW [wof l])) (wof l) W
    rw [hE2] at e2
    rw [hE3] at e3
    rw [hE4] at e4
    have d4 := hid (fun W => WLen_any (wof l) W hlt)
    rw [lenOf_eq] at d4
    have d5 := hid (fun a2 cap2 W (h : Sl W a2 (ints (wsel (wof l)))) => WOf_any a2 cap2 (wsel (wof l)) W (Nat.le_trans (sel_len _ _) (by omega)) h)
    have d6 := hid (fun (W : World) => WBoth_any (some ⟨W.heap.size, 0, none⟩) 2 [wof l, wof l] (W.alloc (.cells (sets [wof l, wof l]).toArray 70)) (by simp) (sets_new _ _ _) (fun s hs i hi => by simp at hs; subst hs; exact hlt i hi))
    have d7 := hid (fun (W : World) => WEither_any (some ⟨W.heap.size, 0, none⟩) 1 [wof l] (W.alloc (.cells (sets [wof l]).toArray 70)) (by simp) (sets_new _ _ _) (fun s hs i hi => by simp at hs; subst hs; exact hlt i hi))
    have c4 : Hid (∀ (b1 : Nat) (y : Value) (J Jx : OwnP) (O : Nat → Prop) (W : World), Client2 Tryd.prog y (wsel (wof l)) J Jx O W → J 0 O W → b1 < W.heap.size → ¬ O b1 → WCells W b1 (inW (wof l)) → Tab W → ¬ O 0 →
        Calls Tryd.prog 95 #[y, .pointer (some ⟨b1, 0, none⟩)] W fun e W' => (∃ v, e = .returned v) ∧ Told (wsel (wof l)) J Jx O W W') := fun b1 y J Jx O W h1 h2 h3 h4 h5 h6 h7 => by
      have := WideIter_any (inW (wof l)) b1 y J Jx O W (fun i hi => inW_lt i (hlt i hi)) (by rw [wsel_in]; exact h1) h2 h3 h4 h5 h6 h7
      rwa [wsel_in] at this
    have hlen : (wsel (wof l)).length ≤ 400 := sel_len _ _
    obtain ⟨xs, hxs⟩ : ∃ xs, wsel (wof l) = xs := ⟨_, rfl⟩
    rw [hxs] at d4 d5 e2 hlen
    simp only [hxs] at c4
    obtain ⟨g2, hg2⟩ : ∃ f, wof xs = f := ⟨_, rfl⟩
    obtain ⟨g3, hg3⟩ : ∃ f, bothW [wof l, wof l] = f := ⟨_, rfl⟩
    obtain ⟨g4, hg4⟩ : ∃ f, inW (someW [wof l]) = f := ⟨_, rfl⟩
    obtain ⟨t, ht⟩ : ∃ f, inW (wof l) = f := ⟨_, rfl⟩
    rw [hg2] at d5 e2
    rw [hg3] at d6 e3
    rw [hg4] at d7 e4
    rw [ht] at d2
    simp only [ht] at c4
    obtain ⟨s, hs⟩ : ∃ f, wof l = f := ⟨_, rfl⟩
    rw [hs] at d1 d2 d3 d4 d6 d7 e2 e3 e4
    clear hxs hg2 hg3 hg4 ht hs hE1 hE2 hE3 hE4 hin hlt hsl h500
    go_enter Tryd.func16, Tryd.ntmps16
    go_wp2_with fail
    refine d1.out.mono ?_
    rintro e w1 ⟨rfl, hB1⟩
    have HB1 := hid hB1
    obtain ⟨W2, hW2⟩ : ∃ W2, w1.alloc (.cells #[.int .u64 (s 0 : Nat), .int .u64 (s 1 : Nat), .int .u64 (s 2 : Nat), .int .u64 (s 3 : Nat), .int .u64 (s 4 : Nat), .int .u64 (s 5 : Nat), .int .u64 (s 6 : Nat)] 70) = W2 := ⟨_, rfl⟩
    have hc2 : Hid (WCells W2 w1.heap.size s) := by rw [← hW2]; exact wcells_new w1 s _
    have b12 : Below w1.heap.size w1 W2 := by rw [← hW2]; exact below_new (Below.refl _ _) (Nat.le_refl _)
    have lt2 : w1.heap.size < W2.heap.size := by rw [← hW2]; simp
    have HB2 : Hid (Below w.heap.size w W2) := HB1.out.trans (b12.mono HB1.out.size)
    have HW2 := hid hW2
    clear hB1 hW2 b12
    go_wp2_with fail
    rw [HW2.out]
    refine (d2.out W2).mono ?_
    rintro e w3 ⟨rfl, hc3, hB3, h3⟩
    have hnil := fun (c : Array Value) W => run_eq_nilFunc (P := Tryd.prog) (t := 33) (f := .func 95) (a := #[]) (c := c) (w := W) ⟨_, _, _, Tryd.underlying33⟩
    have hc23 := hid (hc2.out.below hB3 lt2)
    have HC3 := hid hc3
    have HB3 : Hid (Below w.heap.size w w3) := HB2.out.trans (hB3.mono HB2.out.size)
    obtain ⟨r0, r1, r2, r3, r4, r5, r6⟩ := hc23.out.all
    clear hc3 hB3
    go_wp2_with fail
    refine (d3.out w3).mono ?_
    rintro e w4 ⟨rfl, hB4⟩
    have b34 := hB4.size
    have hc24 := hid (hc23.out.below hB4 (by omega))
    have HC4 := hid (HC3.out.below hB4 h3)
    have HB4 : Hid (Below w.heap.size w w4) := HB3.out.trans (hB4.mono HB3.out.size)
    obtain ⟨W5, hW5⟩ : ∃ W5, w4.alloc (.cells #[.slice none 0 0] 22) = W5 := ⟨_, rfl⟩
    have s5 : W5.heap.size = w4.heap.size + 1 := by rw [← hW5]; simp
    have b45 : Below w4.heap.size w4 W5 := by rw [← hW5]; exact below_new (Below.refl _ _) (Nat.le_refl _)
    have z1 : W5.cell? ⟨w4.heap.size, 0, none⟩ = some (.slice none 0 0) := by rw [← hW5]; simp [go_sem]
    have z2 : W5.frozen? ⟨w4.heap.size, 0, none⟩ = false := by rw [← hW5]; simp [go_sem]
    have B5 : Hid (Below w.heap.size w W5) := HB4.out.trans (b45.mono HB4.out.size)
    have hcl := (collk_client Coll71_any (Go.Proofs.enters_of Tryd.func71 (by kernel_rfl) rfl) w4.heap.size W5.heap.size xs (by omega) (by omega)).two ⟨_, _, _, rfl⟩ (fun b => b = w4.heap.size) W5
    have hI := c4.out W2.heap.size _ _ _ (fun b => b = w4.heap.size) W5 hcl ⟨_, z1, World.ownsRow_nil _ _ _ _, z2, by omega, Nat.le_refl _, rfl, fun b hb => (by cases hb), fun b hb => by omega⟩
      (by omega) (by omega) (HC4.out.below b45 (by omega)) (HT.out.later B5.out) (by have := HB4.out.size; omega)
    have HI := hid hI
    have HW5 := hid hW5
    have S5 := hid s5
    have hc25 := hid (hc24.out.below b45 (by omega))
    clear hI hcl hW5 b45 z1 z2 hB4 s5 r0 r1 r2 r3 r4 r5 r6
    go_wp2_with fail
    rw [HW5.out]
    refine HI.out.mono ?_
    rintro e W6 ⟨⟨v, rfl⟩, O', hsub, hnew, hE, hend⟩
    have hJ : CollK w4.heap.size W5.heap.size xs xs.length O' W6 := by
      rcases hend with h | ⟨_, _, _, h⟩
      · exact h
      · exact h.elim
    have hB6 : Below w.heap.size w W6 := B5.out.trans (hE.below (by rintro b h; have := HB4.out.size; omega) B5.out.size)
    obtain ⟨v', k1, k2, k3, _⟩ := hJ
    obtain ⟨ag, cg, rfl, hsg, _⟩ := owns_form k2
    rw [List.take_length] at hsg
    have HS : Hid (WbS w w1.heap.size w4.heap.size s ag cg xs W6.drew) := by
      have S5' := S5.out
      obtain ⟨r0, r1, r2, r3, r4, r5, r6⟩ := hc25.out.all
      have cc : ∀ i v, W5.cell? ⟨w1.heap.size, i, none⟩ = some v → W6.cell? ⟨w1.heap.size, i, none⟩ = some v := fun i v h => (hE.cell (p := ⟨w1.heap.size, i, none⟩) (by simp only []; omega) (by simp only []; omega)).trans h
      have := hE.size
      exact ⟨cc _ _ r0, cc _ _ r1, cc _ _ r2, cc _ _ r3, cc _ _ r4, cc _ _ r5, cc _ _ r6, k1, hsg.below ⟨rfl, rfl, rfl, Nat.le_refl _, fun _ _ => rfl⟩, hB6.drew, by show _ < W6.heap.size; omega, by show _ < W6.heap.size; omega⟩
    have m1 := hid (fun W (h : WbS w w1.heap.size w4.heap.size s ag cg xs W) => keep_of (d5.out ag cg W h.2.2.2.2.2.2.2.2.1) (fun _ => h.keep))
    have m2 := hid (fun W (h : WbS w w1.heap.size w4.heap.size s ag cg xs W) => keep_of (d4.out W) (fun _ => h.keep))
    have m3 : Hid (∀ W, WbS w w1.heap.size w4.heap.size s ag cg xs W → Calls Tryd.prog 69 #[.slice (some ⟨W.heap.size, 0, none⟩) 2 2] (W.alloc (.cells (sets [s, s]).toArray 70)) fun e w' => e = .returned (wv g3) ∧ WbS w w1.heap.size w4.heap.size s ag cg xs w') := fun W h =>
      (d6.out W).mono fun e w' ⟨h1, h2⟩ => ⟨h1, (h.keep (below_new (Below.refl _ _) (Nat.le_refl _))).keep h2⟩
    have m4 : Hid (∀ W, WbS w w1.heap.size w4.heap.size s ag cg xs W → Calls Tryd.prog 70 #[.slice (some ⟨W.heap.size, 0, none⟩) 1 1] (W.alloc (.cells (sets [s]).toArray 70)) fun e w' => e = .returned (wv g4) ∧ WbS w w1.heap.size w4.heap.size s ag cg xs w') := fun W h =>
      (d7.out W).mono fun e w' ⟨h1, h2⟩ => ⟨h1, (h.keep (below_new (Below.refl _ _) (Nat.le_refl _))).keep h2⟩
    have m5 := hid (fun W (h : WbS w w1.heap.size w4.heap.size s ag cg xs W) => keep_of (cL.out W h.2.2.2.2.2.2.2.2.2.1) (fun _ => h.keep))
    clear hend hsub hnew hE k1 k2 k3 hsg hB6 d1 d2 d3 d4 d5 d6 d7 c4 HI
    go_wp2_with fail
    go_region_held3 (fun w' => WbS w w1.heap.size w4.heap.size s ag cg xs w') (first | exact HS.out | assumption | exact WbS.keep (by assumption) (below_new (Below.refl _ _) (Nat.le_refl _)))
      (first
        | (go_at_call 59; refine (m1.out _ (by assumption)).mono ?_; rintro e w' ⟨rfl, hS⟩)
        | (go_at_call 64; refine (m2.out _ (by assumption)).mono ?_; rintro e w' ⟨rfl, hS⟩)
        | (go_at_call 69; refine (m3.out _ (by assumption)).mono ?_; rintro e w' ⟨rfl, hS⟩)
        | (go_at_call 70; refine (m4.out _ (by assumption)).mono ?_; rintro e w' ⟨rfl, hS⟩)
        | (go_at_call 58; refine (m5.out _ (by assumption)).mono ?_; rintro e w' ⟨rfl, hS⟩))
    go_wp2
    go_ret
    exact ⟨rfl, (‹WbS w w1.heap.size w4.heap.size s ag cg xs _›).2.2.2.2.2.2.2.2.2.1⟩
end Go.Proofs.YtdggflkkojmabaaDoor

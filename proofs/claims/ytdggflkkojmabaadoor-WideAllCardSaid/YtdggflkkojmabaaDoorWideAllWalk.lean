/-
  ferialaw04.WideAll answers true for every set and number.
-/
import Derived.Test.YtdggflkkojmabaaDoorMaskAllWalk
import Derived.Test.YtdggflkkojmabaaDoorWideLives
import Derived.Test.YtdggflkkojmabaaDoorTodAllWalk
namespace Go.Proofs.YtdggflkkojmabaaDoor
open Go.RowKit
set_option linter.unusedVariables false

set_option maxHeartbeats 800000 in
theorem Coll57_any (bg bm base most k : Nat) (xs : List Int) (O : Nat → Prop) (W : World) (hk : k < xs.length) (hl : xs.length ≤ 100000) (hm : most < 65536) (hJ : CollJ bg bm base (.int .u16 most) xs k O W) :
    Calls Tryd.prog 57 #[.int .i64 xs[k], .pointer (some ⟨bg, 0, none⟩), .pointer (some ⟨bm, 0, none⟩)] W fun e W' => ∃ O' : Nat → Prop, (∀ b, O b → O' b) ∧ (∀ b, O' b → O b ∨ W.heap.size ≤ b) ∧ Eff O W W' ∧
      CollJ bg bm base (.int .u16 most) xs (k + 1) O' W' ∧ e = .returned (.bool (decide (k + 1 ≠ most))) := by
  obtain ⟨v, h1, h2, h3, h4, h5, h6, h7, h8, g1, g2, g3, g4⟩ := hJ
  obtain ⟨x, hx⟩ : ∃ x, xs[k] = x := ⟨_, rfl⟩
  have ht := hid (take_snoc xs k hk)
  rw [hx] at ht ⊢
  clear hx
  obtain ⟨a, cap, rfl, hs, hcap⟩ := owns_form h3
  have H3 := hid h3
  have G := hid (And.intro g1 (And.intro g2 (And.intro g3 g4)))
  clear g1 g2 g3 g4
  go_enter Tryd.func57, Tryd.ntmps57
  clear hs h3
  go_wp2_with (at_builtin; refine app1 eInt (.tmp 5) (.tmp 7) rfl rfl rfl rfl rfl H3.out rfl (by omega) (by omega) h8 ?_)
  intro a' cap' w' hown hg hb hf
  have e1 := grown_cell hg h1 (fun e => by have := owns_lt H3.out e; omega)
  have e2 := grown_cell hg h2 (fun e => by have := owns_lt H3.out e; omega)
  have Hown := hid hown
  have Hf := hid hf
  have Hb := hid hb
  have Hg := hid hg
  have hfz : w'.frozen? ⟨bg, 0, none⟩ = false := (hb.frozen (p := ⟨bg, 0, none⟩) h5).trans h4
  clear hown hf hb hg h1 h2 h4
  go_wp2
  obtain ⟨g1, g2, g3, g4⟩ := G.out
  have hgr := Hg.out
  have hsz : W.heap.size ≤ w'.heap.size := hgr.size
  have hs2 : (w'.setCell ⟨bg, 0, none⟩ (.slice a' (k + 1) cap')).heap.size = w'.heap.size := by simp [go_sem]
  refine bodyPost_ret (v := .bool ((k : Int) + 1 != (most : Int))) (by simp [results, Tryd.results57, go_sem]) rfl ⟨fun b => O b ∨ (W.heap.size ≤ b ∧ b < w'.heap.size), fun b h => .inl h, fun b h => h.imp id (·.1), ?_, ?_, ?_⟩
  · refine ⟨hgr.os, hgr.tape, hgr.output, by omega, fun b hb hn => ?_⟩
    have hne : b ≠ bg := fun e => hn (e ▸ g1)
    rw [Below.heap_setCell _ _ _ _ hne]
    exact hgr.block b hb (fun e => hn (g3 b e.symm))
  · refine ⟨.slice a' (k + 1) cap', by simp [go_sem, e1], (World.cell?_of_block (w := w') (a := ⟨bm, 0, none⟩) (Below.heap_setCell _ _ _ _ (by simpa using h7.symm))).trans e2, ?_, by simp [go_sem, hfz], h5, h6, h7, by omega, .inl g1, .inl g2, fun b hb => ?_, fun b hb => ?_⟩
    · rw [ht.out, ints_append, ints_one]; exact ownsRow_setCell_below Hown.out (by simpa using h5) _
    · rcases Hf.out b hb with h | h
      · exact .inl (g3 b h)
      · exact .inr ⟨h, (owns_lt Hown.out hb).2⟩
    · rcases hb with h | h
      · have := g4 b h; omega
      · omega
  · congr 2
    rw [Bool.eq_iff_iff]; simp; omega
/-- the callback of WideAll is a client of a telling of xs -/
theorem coll_client57 (bg bm base most : Nat) (xs : List Int) (hl : xs.length ≤ 100000) (hm : most < 65536) :
    Client Tryd.prog (.func (.func 57) #[] #[.pointer (some ⟨bg, 0, none⟩), .pointer (some ⟨bm, 0, none⟩)]) xs
      (fun k O W => CollJ bg bm base (.int .u16 most) xs k O W ∧ ∀ j, 1 ≤ j → j ≤ k → j ≠ most) (fun k O W => CollJ bg bm base (.int .u16 most) xs k O W ∧ k = most) where
  stab := fun k O W W' h hs hO => ⟨h.1.stab hs hO, h.2⟩
  stabx := fun k O W W' h hs hO => ⟨h.1.stab hs hO, h.2⟩
  lt := fun k O W h => h.1.lt
  ltx := fun k O W h => h.1.lt
  call := fun k O W hk h => .inl ⟨_, _, rfl, Go.Proofs.enters_of Tryd.func57 (by kernel_rfl) rfl, (Coll57_any bg bm base most k xs O W hk hl hm h.1).mono fun e W' ⟨O', h1, h2, h3, h4, h5⟩ => ⟨O', h1, h2, h3, by
    by_cases e1 : k + 1 = most
    · right; exact ⟨by rw [h5]; simp [e1], h4, e1⟩
    · left; exact ⟨by rw [h5]; simp [e1], h4, fun j hj1 hj2 => by
        rcases Nat.lt_or_ge k j with h6 | h6
        · have : j = k + 1 := by omega
          rw [this]; exact e1
        · exact h.2 j hj1 h6⟩⟩⟩

theorem owns_cap {w : World} {base : Nat} {e : TypeId} {s : Nat} {a : Option Addr} {m n cap : Nat} {xs : List Value} (h : w.ownsRow base e s (.slice a m cap) n xs) : n ≤ cap := by
  rcases h.2 with ⟨h1, h2⟩ | ⟨g, cap', cur, h1, hb, hg, hnc, r⟩
  · omega
  · cases h1; exact hnc
theorem Sl.take {w : World} {a : Option Addr} {l : List Int} (h : Sl w a (ints l)) (k : Nat) : Sl w a (ints (l.take k)) := by
  rcases Nat.eq_zero_or_pos (l.take k).length with h0 | h0
  · rw [List.eq_nil_of_length_eq_zero h0]; exact Sl.nil _ _
  · have hl : 0 < l.length := by rw [List.length_take] at h0; omega
    obtain ⟨b, off, rfl, hb, hc⟩ := h.atInt hl
    refine .inr ⟨b, off, rfl, hb, fun j hj => ?_⟩
    rw [ints_length, List.length_take] at hj
    rw [hc j (by omega)]
    simp [ints]

set_option maxRecDepth 100000 in
set_option maxHeartbeats 8000000 in
theorem WideAll_walk (s : Nat → Nat) (most : Nat) (w : World) (hs : ∀ i, i < 7 → s i < 18446744073709551616) (hm : most < 65536) (hT : Tab w) :
    Calls Tryd.prog 11 #[wv s, .int .u16 most] w fun e w' => e = .returned (.bool true) ∧ Below w.heap.size w w' := by
  have HT := hid hT
  have hT0 := hT.1
  have c1 := hid (fun W => own_ret (WList_any s W hs))
  have c2 := hid (fun W (h : Tab W) => WBounds_any s W hs h)
  have c3 := hid (fun W => WAll_any s W hs)
  have c4 : Hid (∀ (b1 : Nat) (y : Value) (J Jx : OwnP) (O : Nat → Prop) (W : World), Client2 Tryd.prog y (wsel s) J Jx O W → J 0 O W → b1 < W.heap.size → ¬ O b1 → WCells W b1 (inW s) → Tab W → ¬ O 0 →
      Calls Tryd.prog 95 #[y, .pointer (some ⟨b1, 0, none⟩)] W fun e W' => (∃ v, e = .returned v) ∧ Told (wsel s) J Jx O W W') := fun b1 y J Jx O W h1 h2 h3 h4 h5 h6 h7 => by
    have := WideIter_any (inW s) b1 y J Jx O W (fun i hi => inW_lt i (hs i hi)) (by rw [wsel_in]; exact h1) h2 h3 h4 h5 h6 h7
    rwa [wsel_in] at this
  have hlen : (wsel s).length ≤ 400 := sel_len _ _
  obtain ⟨xs, hxs⟩ : ∃ xs, wsel s = xs := ⟨_, rfl⟩
  rw [hxs] at c1 c2 hlen
  simp only [hxs] at c4
  obtain ⟨t, ht⟩ : ∃ t, inW s = t := ⟨_, rfl⟩
  rw [ht] at c3
  simp only [ht] at c4
  clear hxs ht hs hT
  obtain ⟨W0, hW0⟩ : ∃ W0, (w.alloc (.cells #[.int .u64 (s 0 : Nat), .int .u64 (s 1 : Nat), .int .u64 (s 2 : Nat), .int .u64 (s 3 : Nat), .int .u64 (s 4 : Nat), .int .u64 (s 5 : Nat), .int .u64 (s 6 : Nat)] 70)).alloc (.cells #[.int .u16 most] 66) = W0 := ⟨_, rfl⟩
  have q1 : W0.heap.size = w.heap.size + 2 := by rw [← hW0]; simp
  have q2 : Below w.heap.size w W0 := by rw [← hW0]; exact below_new (below_new (Below.refl _ _) (Nat.le_refl _)) (by simp)
  have q3 : WCells W0 w.heap.size s := by rw [← hW0]; exact (wcells_new w s _).below (below_new (Below.refl _ _) (Nat.le_refl _)) (by simp)
  have q4 : W0.cell? ⟨w.heap.size + 1, 0, none⟩ = some (.int .u16 most) := by rw [← hW0]; simp [go_sem]
  have HW0 := hid hW0
  have Q2 := hid q2
  have Q3 := hid q3
  obtain ⟨r0, r1, r2, r3, r4, r5, r6⟩ := q3.all
  clear hW0 q2 q3
  go_enter Tryd.func11, Tryd.ntmps11
  go_wp2_with fail
  rw [HW0.out]
  go_wp2_with fail
  refine (c1.out W0).mono ?_
  rintro e w1 ⟨a, n, cap, rfl, hn, hsl, hown, hB1⟩
  obtain rfl := hn.out
  have hcap := owns_cap hown
  have Hown := hid hown
  have Hsl := hid hsl
  have b1 := hB1.size
  have Q31 := hid (Q3.out.below hB1 (by omega))
  have Q41 := hid ((hB1.cell (p := ⟨w.heap.size + 1, 0, none⟩) (by simp only []; omega)).trans q4)
  have HB1 : Hid (Below w.heap.size w w1) := Q2.out.trans (hB1.mono (by omega))
  obtain ⟨r0, r1, r2, r3, r4, r5, r6⟩ := Q31.out.all
  clear hn hsl hown hB1 q4 Q3
  go_wp2_with fail
  refine (c2.out w1 (HT.out.later HB1.out)).mono ?_
  rintro e w2 ⟨rfl, hB2⟩
  have b2 := hB2.size
  have Hsl2 := hid (Hsl.out.below hB2)
  have Q32 := hid (Q31.out.below hB2 (by omega))
  have Q42 := hid ((hB2.cell (p := ⟨w.heap.size + 1, 0, none⟩) (by simp only []; omega)).trans Q41.out)
  have HB2 : Hid (Below w.heap.size w w2) := HB1.out.trans (hB2.mono (by omega))
  have HB12 := hid hB2
  obtain ⟨r0, r1, r2, r3, r4, r5, r6⟩ := Q32.out.all
  have hlt2 : w.heap.size + 1 < w2.heap.size := by omega
  clear hB2 Hsl Q41 Q31
  have HAll := hid (c3.out w2)
  rcases Nat.eq_zero_or_pos xs.length with h0 | h0
  · have hf : firstZ xs xs.length = 0 ∧ lastZ xs xs.length = 0 ∧ decide (0 < xs.length) = false := by rw [h0]; exact ⟨rfl, rfl, rfl⟩
    rw [hf.1, hf.2.1, hf.2.2]
    clear hf
    go_wp2_with fail
    refine HAll.out.mono ?_
    rintro e w3 ⟨rfl, hc3, hB3, h3⟩
    have hnil := fun (c : Array Value) W => run_eq_nilFunc (P := Tryd.prog) (t := 33) (f := .func 95) (a := #[]) (c := c) (w := W) ⟨_, _, _, Tryd.underlying33⟩
    obtain ⟨W5, hW5⟩ : ∃ W5, w3.alloc (.cells #[.slice none 0 0] 22) = W5 := ⟨_, rfl⟩
    have s5 : W5.heap.size = w3.heap.size + 1 := by rw [← hW5]; simp
    have b35 : Below w3.heap.size w3 W5 := by rw [← hW5]; exact below_new (Below.refl _ _) (Nat.le_refl _)
    have z1 : W5.cell? ⟨w3.heap.size, 0, none⟩ = some (.slice none 0 0) := by rw [← hW5]; simp [go_sem]
    have z2 : W5.frozen? ⟨w3.heap.size, 0, none⟩ = false := by rw [← hW5]; simp [go_sem]
    have b25 : Below w2.heap.size w2 W5 := hB3.trans (b35.mono (by omega))
    have z3 : W5.cell? ⟨w.heap.size + 1, 0, none⟩ = some (.int .u16 most) := (b25.cell (p := ⟨w.heap.size + 1, 0, none⟩) hlt2).trans Q42.out
    have B5 : Hid (Below w.heap.size w W5) := HB2.out.trans (b25.mono HB2.out.size)
    have hcl := (coll_client57 w3.heap.size (w.heap.size + 1) W5.heap.size most xs (by omega) hm).two ⟨_, _, _, rfl⟩ (fun b => b = w3.heap.size ∨ b = w.heap.size + 1) W5
    have hI := c4.out w2.heap.size _ _ _ (fun b => b = w3.heap.size ∨ b = w.heap.size + 1) W5 hcl ⟨⟨_, z1, z3, World.ownsRow_nil _ _ _ _, z2, by omega, by omega, by omega, Nat.le_refl _, .inl rfl, .inr rfl, fun b hb => (by cases hb), fun b hb => by rcases hb with rfl | rfl <;> omega⟩, fun j h1 h2 => by omega⟩
      (by omega) (by rintro (h | h) <;> omega) (hc3.below b35 h3) (HT.out.later B5.out) (by rintro (h | h) <;> omega)
    have HI := hid hI
    have HW5 := hid hW5
    have B25 := hid b25
    have S5 := hid s5
    have H3 := hid h3
    clear hI hcl hW5 b35 b25 z1 z2 z3 hc3 hB3 s5 h3 r0 r1 r2 r3 r4 r5 r6
    go_wp2_with fail
    rw [HW5.out]
    refine HI.out.mono ?_
    rintro e W6 ⟨⟨v, rfl⟩, O', hsub, hnew, hE, hend⟩
    have hgot : W6.cell? ⟨w.heap.size + 1, 0, none⟩ = some (.int .u16 most) ∧ ∃ ag cg, W6.cell? ⟨w3.heap.size, 0, none⟩ = some (.slice ag (tk most xs).length cg) ∧ Sl W6 ag (ints (tk most xs)) := by
      have gen : ∀ k, xs.take k = tk most xs → k ≤ xs.length → CollJ w3.heap.size (w.heap.size + 1) W5.heap.size (.int .u16 most) xs k O' W6 → W6.cell? ⟨w.heap.size + 1, 0, none⟩ = some (.int .u16 most) ∧ ∃ ag cg, W6.cell? ⟨w3.heap.size, 0, none⟩ = some (.slice ag (tk most xs).length cg) ∧ Sl W6 ag (ints (tk most xs)) := by
        rintro k hk hkl ⟨v, c1, c2, c3, _⟩
        obtain ⟨a', cap', rfl, hs, _⟩ := owns_form c3
        have hkk : (tk most xs).length = k := by rw [← hk, List.length_take]; omega
        exact ⟨c2, a', cap', by rw [hkk]; exact c1, by rw [← hk]; exact hs⟩
      rcases hend with ⟨hJ, hj⟩ | ⟨k, hk1, hk2, hJ, hj⟩
      · exact gen xs.length (by rw [tk_all hj, List.take_length]) (Nat.le_refl _) hJ
      · exact gen k (by rw [hj, tk_some (by omega)]) hk2 hJ
    obtain ⟨cm, ag, cg, hc1, hc2⟩ := hgot
    have hwant : Sl W6 a (ints xs) := by
      have S5' := S5.out
      have H3' := H3.out
      have ho := owns_agree (w' := W6) Hown.out (fun b hb => by
        have hlt := owns_lt Hown.out hb
        have hB25 := B25.out.size
        refine (hE.block b (by omega) (by rintro (h | h) <;> omega)).trans ((B25.out.block b (by omega)).trans ?_)
        exact HB12.out.block b hlt.2)
      exact owns_sl ho
    have hB6 : Below w.heap.size w W6 := B5.out.trans (hE.below (by have H3' := H3.out; rintro b (h | h) <;> omega) B5.out.size)
    have HB6 := hid hB6
    have hlf := hid (fun W (h : Below W6.heap.size W6 W) => lives04_any W ((HT.out.later HB6.out).later h))
    have HG := hid (And.intro hc2 hwant)
    clear hend hsub hnew hE hc2 hwant hB6 HI
    rcases Nat.eq_zero_or_pos most with hp | hp
    · have htk : tk most xs = xs := by rw [tk, if_pos hp]
      have hq : ¬ 0 < most := by omega
      rw [htk] at hc1 HG
      clear htk hp
      have HF0 := Ints_any ag a cg cap xs xs W6 (by omega) (by omega) HG.out.1 HG.out.2
      rw [h0] at HF0 hc1
      have HF := hid HF0
      clear HF0
      go_wp2_with fail
      refine HF.out.mono ?_
      rintro e W7 ⟨rfl, hb7⟩
      have HB7 := hid hb7
      clear hb7
      simp only [decide_true]
      go_wp2_with fail
      refine (hlf.out W7 HB7.out).mono ?_
      rintro e W8 ⟨rfl, hb8⟩
      go_wp2
      go_ret
      exact ⟨rfl, HB6.out.trans ((HB7.out.trans (hb8.mono HB7.out.size)).mono HB6.out.size)⟩
    · have htk : tk most xs = xs := by rw [tk, if_neg (by omega), List.take_of_length_le (by omega)]
      have hq2 : ¬ most < 0 := by omega
      rw [htk] at hc1 HG
      clear htk
      have HF0 := Ints_any ag a cg cap xs xs W6 (by omega) (by omega) HG.out.1 HG.out.2
      rw [h0] at HF0 hc1
      have HF := hid HF0
      clear HF0
      go_wp2_with fail
      refine HF.out.mono ?_
      rintro e W7 ⟨rfl, hb7⟩
      have HB7 := hid hb7
      clear hb7
      simp only [decide_true]
      go_wp2_with fail
      refine (hlf.out W7 HB7.out).mono ?_
      rintro e W8 ⟨rfl, hb8⟩
      go_wp2
      go_ret
      exact ⟨rfl, HB6.out.trans ((HB7.out.trans (hb8.mono HB7.out.size)).mono HB6.out.size)⟩
  · have hlast : xs.length - 1 < xs.length := by omega
    obtain ⟨b, off, rfl, hbk, hc⟩ := Hsl2.out.atInt h0
    have e1 := hc 0 h0
    have e2 := hc (xs.length - 1) hlast
    rw [Nat.add_zero] at e1
    have hf1 : firstZ xs xs.length = xs[0] := by rw [firstZ, if_neg (by omega), List.getD_eq_getElem?_getD, List.getElem?_eq_getElem h0]; rfl
    have hf2 : lastZ xs xs.length = xs[xs.length - 1] := by
      obtain ⟨j, hj⟩ : ∃ j, xs.length = j + 1 := ⟨xs.length - 1, by omega⟩
      have := lastZ_succ xs j (by omega)
      rw [← hj] at this
      rw [this]
      congr 1
      omega
    have hf3 : decide (0 < xs.length) = true := by simp; omega
    rw [← hf1] at e1
    rw [← hf2] at e2
    rw [hf3]
    obtain ⟨x, hx⟩ : ∃ x, firstZ xs xs.length = x := ⟨_, rfl⟩
    obtain ⟨y, hy⟩ : ∃ x, lastZ xs xs.length = x := ⟨_, rfl⟩
    rw [hx] at e1 ⊢
    rw [hy] at e2 ⊢
    have hln : ((xs.length : Int) - 1) = ((xs.length - 1 : Nat) : Int) := by omega
    have Hln := hid hln
    clear hc hf1 hf2 hf3 hx hy hln
    go_wp2_with fail
    refine HAll.out.mono ?_
    rintro e w3 ⟨rfl, hc3, hB3, h3⟩
    have hnil := fun (c : Array Value) W => run_eq_nilFunc (P := Tryd.prog) (t := 33) (f := .func 95) (a := #[]) (c := c) (w := W) ⟨_, _, _, Tryd.underlying33⟩
    obtain ⟨W5, hW5⟩ : ∃ W5, w3.alloc (.cells #[.slice none 0 0] 22) = W5 := ⟨_, rfl⟩
    have s5 : W5.heap.size = w3.heap.size + 1 := by rw [← hW5]; simp
    have b35 : Below w3.heap.size w3 W5 := by rw [← hW5]; exact below_new (Below.refl _ _) (Nat.le_refl _)
    have z1 : W5.cell? ⟨w3.heap.size, 0, none⟩ = some (.slice none 0 0) := by rw [← hW5]; simp [go_sem]
    have z2 : W5.frozen? ⟨w3.heap.size, 0, none⟩ = false := by rw [← hW5]; simp [go_sem]
    have b25 : Below w2.heap.size w2 W5 := hB3.trans (b35.mono (by omega))
    have z3 : W5.cell? ⟨w.heap.size + 1, 0, none⟩ = some (.int .u16 most) := (b25.cell (p := ⟨w.heap.size + 1, 0, none⟩) hlt2).trans Q42.out
    have B5 : Hid (Below w.heap.size w W5) := HB2.out.trans (b25.mono HB2.out.size)
    have hcl := (coll_client57 w3.heap.size (w.heap.size + 1) W5.heap.size most xs (by omega) hm).two ⟨_, _, _, rfl⟩ (fun b => b = w3.heap.size ∨ b = w.heap.size + 1) W5
    have hI := c4.out w2.heap.size _ _ _ (fun b => b = w3.heap.size ∨ b = w.heap.size + 1) W5 hcl ⟨⟨_, z1, z3, World.ownsRow_nil _ _ _ _, z2, by omega, by omega, by omega, Nat.le_refl _, .inl rfl, .inr rfl, fun b hb => (by cases hb), fun b hb => by rcases hb with rfl | rfl <;> omega⟩, fun j h1 h2 => by omega⟩
      (by omega) (by rintro (h | h) <;> omega) (hc3.below b35 h3) (HT.out.later B5.out) (by rintro (h | h) <;> omega)
    have HI := hid hI
    have HW5 := hid hW5
    have B25 := hid b25
    have S5 := hid s5
    have H3 := hid h3
    clear hI hcl hW5 b35 b25 z1 z2 z3 hc3 hB3 s5 h3 r0 r1 r2 r3 r4 r5 r6
    go_wp2_with fail
    rw [HW5.out]
    refine HI.out.mono ?_
    rintro e W6 ⟨⟨v, rfl⟩, O', hsub, hnew, hE, hend⟩
    have hgot : W6.cell? ⟨w.heap.size + 1, 0, none⟩ = some (.int .u16 most) ∧ ∃ ag cg, W6.cell? ⟨w3.heap.size, 0, none⟩ = some (.slice ag (tk most xs).length cg) ∧ Sl W6 ag (ints (tk most xs)) := by
      have gen : ∀ k, xs.take k = tk most xs → k ≤ xs.length → CollJ w3.heap.size (w.heap.size + 1) W5.heap.size (.int .u16 most) xs k O' W6 → W6.cell? ⟨w.heap.size + 1, 0, none⟩ = some (.int .u16 most) ∧ ∃ ag cg, W6.cell? ⟨w3.heap.size, 0, none⟩ = some (.slice ag (tk most xs).length cg) ∧ Sl W6 ag (ints (tk most xs)) := by
        rintro k hk hkl ⟨v, c1, c2, c3, _⟩
        obtain ⟨a', cap', rfl, hs, _⟩ := owns_form c3
        have hkk : (tk most xs).length = k := by rw [← hk, List.length_take]; omega
        exact ⟨c2, a', cap', by rw [hkk]; exact c1, by rw [← hk]; exact hs⟩
      rcases hend with ⟨hJ, hj⟩ | ⟨k, hk1, hk2, hJ, hj⟩
      · exact gen xs.length (by rw [tk_all hj, List.take_length]) (Nat.le_refl _) hJ
      · exact gen k (by rw [hj, tk_some (by omega)]) hk2 hJ
    obtain ⟨cm, ag, cg, hc1, hc2⟩ := hgot
    have hwant : Sl W6 (some ⟨b, off, none⟩) (ints xs) := by
      have S5' := S5.out
      have H3' := H3.out
      have ho := owns_agree (w' := W6) Hown.out (fun b hb => by
        have hlt := owns_lt Hown.out hb
        have hB25 := B25.out.size
        refine (hE.block b (by omega) (by rintro (h | h) <;> omega)).trans ((B25.out.block b (by omega)).trans ?_)
        exact HB12.out.block b hlt.2)
      exact owns_sl ho
    have hB6 : Below w.heap.size w W6 := B5.out.trans (hE.below (by have H3' := H3.out; rintro b (h | h) <;> omega) B5.out.size)
    have HB6 := hid hB6
    have hlf := hid (fun W (h : Below W6.heap.size W6 W) => lives04_any W ((HT.out.later HB6.out).later h))
    have HG := hid (And.intro hc2 hwant)
    clear hend hsub hnew hE hc2 hwant hB6 HI
    rcases Nat.eq_zero_or_pos most with hp | hp
    · have htk : tk most xs = xs := by rw [tk, if_pos hp]
      have hq : ¬ 0 < most := by omega
      rw [htk] at hc1 HG
      clear htk hp
      have HF0 := Ints_any ag (some ⟨b, off, none⟩) cg cap xs xs W6 (by omega) (by omega) HG.out.1 HG.out.2
      have HF := hid HF0
      clear HF0
      go_wp2_with fail
      refine HF.out.mono ?_
      rintro e W7 ⟨rfl, hb7⟩
      have HB7 := hid hb7
      clear hb7
      simp only [decide_true]
      go_wp2_with fail
      refine (hlf.out W7 HB7.out).mono ?_
      rintro e W8 ⟨rfl, hb8⟩
      go_wp2
      go_ret
      exact ⟨rfl, HB6.out.trans ((HB7.out.trans (hb8.mono HB7.out.size)).mono HB6.out.size)⟩
    · rcases Nat.lt_or_ge most xs.length with hp2 | hp2
      · have htk : tk most xs = xs.take most := by rw [tk, if_neg (by omega)]
        have hlk : (xs.take most).length = most := by rw [List.length_take]; omega
        rw [htk] at hc1 HG
        rw [hlk] at hc1
        have HF0 := Ints_any ag (some ⟨b, off, none⟩) cg cap (xs.take most) (xs.take most) W6 (by omega) (by omega) HG.out.1 (HG.out.2.take most)
        rw [hlk] at HF0
        have HF := hid HF0
        clear HF0 htk hlk
        go_wp2_with fail
        refine HF.out.mono ?_
        rintro e W7 ⟨rfl, hb7⟩
        have HB7 := hid hb7
        clear hb7
        simp only [decide_true]
        go_wp2_with fail
        refine (hlf.out W7 HB7.out).mono ?_
        rintro e W8 ⟨rfl, hb8⟩
        go_wp2
        go_ret
        exact ⟨rfl, HB6.out.trans ((HB7.out.trans (hb8.mono HB7.out.size)).mono HB6.out.size)⟩
      · have htk : tk most xs = xs := by rw [tk, if_neg (by omega), List.take_of_length_le hp2]
        have hq2 : ¬ most < xs.length := by omega
        rw [htk] at hc1 HG
        clear htk hp2
        have HF0 := Ints_any ag (some ⟨b, off, none⟩) cg cap xs xs W6 (by omega) (by omega) HG.out.1 HG.out.2
        have HF := hid HF0
        clear HF0
        go_wp2_with fail
        refine HF.out.mono ?_
        rintro e W7 ⟨rfl, hb7⟩
        have HB7 := hid hb7
        clear hb7
        simp only [decide_true]
        go_wp2_with fail
        refine (hlf.out W7 HB7.out).mono ?_
        rintro e W8 ⟨rfl, hb8⟩
        go_wp2
        go_ret
        exact ⟨rfl, HB6.out.trans ((HB7.out.trans (hb8.mono HB7.out.size)).mono HB6.out.size)⟩
end Go.Proofs.YtdggflkkojmabaaDoor

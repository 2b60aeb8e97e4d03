/-
  seek.Some.
  The first instants above one, in plain words.
-/
import Derived.Test.YtcbanlgnanihhaaGreatDoorQ7a03ca
import Derived.Test.YtcbanlgnanihhaaGreatDoorQ1af907
namespace Go.Proofs.YtcbanlgnanihhaaGreatDoor
open Go.RowKit Go.Maps
set_option linter.unusedVariables false
attribute [local go_sem] Oper.semAt_some

theorem eI64 : El Tryz.prog 44 2 (.int .i64 0) 1 8 := ⟨Tryz.underlying44, by kernel_rfl, by kernel_rfl, by decide⟩
def someL (l : List Cl) (t many : Int) : List Int := (instA l (heldI t + 1) 12622780799).take many.toNat
def someF (l : List Cl) (many : Int) : Int := if faultL l ≠ 0 then faultL l else if many < 1 ∨ 10000 < many then 1 else 0
def someV (l : List Cl) (t many : Int) : List Int := if someF l many = 0 then someL l t many else []
structure SmC (b5 bg base : Nat) (many : Int) (xs : List Int) (k : Nat) (O : Nat → Prop) (W : World) (v : Value) : Prop where
  cg : W.cell? ⟨bg, 0, none⟩ = some v
  c5 : W.cell? ⟨b5, 0, none⟩ = some (.int .i64 many)
  own : W.ownsRow base 2 1 v k (ints (xs.take k))
  fg : W.frozen? ⟨bg, 0, none⟩ = false
  lg : bg < base
  l5 : b5 < base
  ne : bg ≠ b5
  bs : base ≤ W.heap.size
  og : O bg
  o5 : O b5
  ov : ∀ b, v.ownBlock = some b → O b
  lt : ∀ b, O b → b < W.heap.size
theorem SmC.keep {b5 bg base : Nat} {many : Int} {xs : List Int} {k : Nat} {O : Nat → Prop} {W W' : World} {v : Value} (h : SmC b5 bg base many xs k O W v) (hs : W.heap.size ≤ W'.heap.size) (hO : ∀ b, O b → W'.heap[b]? = W.heap[b]?) : SmC b5 bg base many xs k O W' v :=
  ⟨(World.cell?_of_block (w := W) (a := ⟨bg, 0, none⟩) (hO bg h.og)).trans h.cg, (World.cell?_of_block (w := W) (a := ⟨b5, 0, none⟩) (hO b5 h.o5)).trans h.c5, owns_agree h.own (fun b hb => hO b (h.ov b hb)),
    (World.frozen?_of_block (w := W) (a := ⟨bg, 0, none⟩) (hO bg h.og)).trans h.fg, h.lg, h.l5, h.ne, Nat.le_trans h.bs hs, h.og, h.o5, h.ov, fun b hb => Nat.lt_of_lt_of_le (h.lt b hb) hs⟩
def SmI (b5 bg base : Nat) (many : Int) (xs : List Int) : OwnF := fun k O _ W => (k : Int) < many ∧ ∃ v, SmC b5 bg base many xs k O W v
def SmX (b5 bg base : Nat) (many : Int) (xs : List Int) (c : Code) : OwnF := fun k O _ W => c = .exit 0 ∧ (k : Int) = many ∧ ∃ v, SmC b5 bg base many xs k O W v
theorem smI_stab (b5 bg base : Nat) (many : Int) (xs : List Int) (M : Blk) : StabF M (SmI b5 bg base many xs) := fun k O F F' W W' ⟨h1, v, h2⟩ hs hF hO => ⟨h1, v, h2.keep hs (fun c hc => hO c (.inl hc))⟩
theorem smX_stab (b5 bg base : Nat) (many : Int) (xs : List Int) (M : Blk) (c : Code) : StabF M (SmX b5 bg base many xs c) := fun k O F F' W W' ⟨h0, h1, v, h2⟩ hs hF hO => ⟨h0, h1, v, h2.keep hs (fun c hc => hO c (.inl hc))⟩
theorem smI_lt (b5 bg base : Nat) (many : Int) (xs : List Int) : LtF (SmI b5 bg base many xs) := fun k O F W ⟨_, v, h⟩ => h.lt
theorem smX_lt (b5 bg base : Nat) (many : Int) (xs : List Int) (c : Code) : LtF (SmX b5 bg base many xs c) := fun k O F W ⟨_, _, v, h⟩ => h.lt
def SmT (h0 h1 h2 h3 h4 h5 h6 h7 : Value) (ds : List Deferred) (a : Act) : Prop := ∃ u : Nat → Value, a = { tmps := #[h0, h1, h2, h3, h4, h5, u 0, u 1, u 2, u 3, h6, h7, u 4, u 5, u 6, u 7, u 8, u 9, u 10, u 11, u 12, u 13, u 14, u 15, u 16, u 17, u 18, u 19, u 20, u 21, u 22, u 23, u 24, u 25, u 26, u 27, u 28, u 29, u 30, u 31, u 32], defers := ds }
theorem SmT.of {h0 h1 h2 h3 h4 h5 h6 h7 u6 u7 u8 u9 u12 u13 u14 u15 u16 u17 u18 u19 u20 u21 u22 u23 u24 u25 u26 u27 u28 u29 u30 u31 u32 u33 u34 u35 u36 u37 u38 u39 u40 : Value} {ds : List Deferred} : SmT h0 h1 h2 h3 h4 h5 h6 h7 ds { tmps := #[h0, h1, h2, h3, h4, h5, u6, u7, u8, u9, h6, h7, u12, u13, u14, u15, u16, u17, u18, u19, u20, u21, u22, u23, u24, u25, u26, u27, u28, u29, u30, u31, u32, u33, u34, u35, u36, u37, u38, u39, u40], defers := ds } :=
  ⟨fun i => (#[u6, u7, u8, u9, u12, u13, u14, u15, u16, u17, u18, u19, u20, u21, u22, u23, u24, u25, u26, u27, u28, u29, u30, u31, u32, u33, u34, u35, u36, u37, u38, u39, u40] : Array Value).getD i undef, rfl⟩
set_option maxRecDepth 100000 in
set_option maxHeartbeats 3200000 in
theorem SkSome_any (a : Option Addr) (cap : Nat) (l : List Cl) (t many : Int) (w : World) (hl : l.length ≤ 9223372036854775807) (hlc : l.length ≤ cap) (hs : Sl w a (cls l)) (hno : a = none → cap = 0) (hok : ∀ c ∈ l, c.Ok) (hT : Tab w) :
    Calls Tryz.prog 19 #[.slice a l.length cap, .int .i64 t, .int .i64 many] w fun e w' => (∃ v, e = .returned (.tuple #[v, .int .i64 (someF l many)]) ∧ w'.ownsRow w.heap.size 2 1 v (someV l t many).length (ints (someV l t many))) ∧ Below w.heap.size w w' := by
  obtain ⟨W1, hW1⟩ : ∃ W1, w.alloc (.cells #[.int .i64 many] 3) = W1 := ⟨_, rfl⟩
  have hB1 : Below w.heap.size w W1 := by rw [← hW1]; exact below_new (Below.refl _ _) (Nat.le_refl _)
  have s1 : W1.heap.size = w.heap.size + 1 := by rw [← hW1]; simp
  have k5 : W1.cell? ⟨w.heap.size, 0, none⟩ = some (.int .i64 many) := by rw [← hW1]; simp [go_sem]
  have cO := hid (IOf_any a cap l W1 hl hlc (hs.below hB1) hno hok)
  have cH := hid (fun W => SkHeld_any t W)
  have cA := hid (fun W (hB : Below W1.heap.size W1 W) f u h => SkAllC_any a cap l f u W hl hlc ((hs.below hB1).below hB) hno hok ((hT.later hB1).later hB) h)
  have g0 := held_ge t
  have g1 := held_le t
  obtain ⟨h0, hh0⟩ : ∃ x, heldI t = x := ⟨_, rfl⟩
  have HB1 := hid hB1
  have HW1 := hid hW1
  have S1 := hid s1
  have Ht0 : Hid (0 < w.heap.size) := hT.1
  have Hh0 := hid hh0
  rw [hh0] at cH g0 g1
  obtain ⟨VS, hVS⟩ : ∃ x, someV l t many = x := ⟨_, rfl⟩
  obtain ⟨fs, hfs⟩ : ∃ x, someF l many = x := ⟨_, rfl⟩
  have HVS := hid hVS
  have Hfs := hid hfs
  rw [hVS, hfs]
  clear hW1 hB1 hs hok hT s1 hno hlc hh0 hVS hfs
  refine (wf_calls (r := none) (n := 1)).mp ?_
  refine callsIn_of_wp_marks Tryz.func19 rfl trivial ?_ rfl
  simp only [Tryz.ntmps19, List.size_toArray, List.length_cons, List.length_nil, Nat.reduceAdd, Nat.reduceSub, Array.replicate_succ, Array.replicate_zero, List.push_toArray, List.append_toArray, List.nil_append, List.cons_append]
  gi_wp2_with fail
  rw [HW1.out]
  refine (wf_calls.mpr cO.out).mono ?_
  rintro e w2 ⟨⟨v, rfl, -⟩, hB2⟩
  have HB2 := hid hB2
  have hB02 := hid (HB1.out.trans (hB2.mono HB1.out.size))
  have j5 := (hB2.cell (p := ⟨w.heap.size, 0, none⟩) (by have := S1.out; simp only []; omega)).trans k5
  clear k5
  by_cases hf : faultL l = 0
  rotate_left
  · have hf1 : fs = faultL l := by rw [← Hfs.out, someF, if_pos hf]
    have hv1 : VS = [] := by rw [← HVS.out, someV, Hfs.out, if_neg (by rw [hf1]; exact hf)]
    obtain ⟨X, hX⟩ : ∃ X, faultL l = X := ⟨_, rfl⟩
    rw [hX] at hf hf1 ⊢
    have hX0 : (X == 0) = false := by simpa using hf
    have hX1 : (X != 0) = true := by simpa using hf
    have Hf1 := hid hf1
    have Hv1 := hid hv1
    clear hB2 cA hX hf1 hv1
    gi_wp2
    refine ⟨_, by simp [results, Tryz.results19, go_sem]; rfl, ⟨_, by rw [Hf1.out], ?_⟩, hB02.out⟩
    rw [Hv1.out]; exact World.ownsRow_nil _ _ _ _
  have cA2 := hid (cA.out)
  rw [hf]
  clear hB2 cA
  by_cases hm : many < 1 ∨ 10000 < many
  · have hf1 : fs = 1 := by rw [← Hfs.out, someF, if_neg (by simp [hf]), if_pos hm]
    have hv1 : VS = [] := by rw [← HVS.out, someV, Hfs.out, if_neg (by rw [hf1]; decide)]
    have Hf1 := hid hf1
    have Hv1 := hid hv1
    clear hf1 hv1
    by_cases hm1 : many < 1
    · have d1 : decide (many < 1) = true := decide_eq_true hm1
      clear hm hm1
      gi_wp2
      refine ⟨_, by simp [results, Tryz.results19, go_sem]; rfl, ⟨_, by rw [Hf1.out], ?_⟩, hB02.out⟩
      rw [Hv1.out]; exact World.ownsRow_nil _ _ _ _
    · have d1 : decide (many < 1) = false := decide_eq_false hm1
      have d2 : decide (10000 < many) = true := decide_eq_true (by omega)
      clear hm hm1
      gi_wp2
      refine ⟨_, by simp [results, Tryz.results19, go_sem]; rfl, ⟨_, by rw [Hf1.out], ?_⟩, hB02.out⟩
      rw [Hv1.out]; exact World.ownsRow_nil _ _ _ _
  have d1 : decide (many < 1) = false := decide_eq_false (by omega)
  have d2 : decide (10000 < many) = false := decide_eq_false (by omega)
  have m1 : 1 ≤ many := by omega
  have m2 : many ≤ 10000 := by omega
  have hf1 : fs = 0 := by rw [← Hfs.out, someF, if_neg (by simp [hf]), if_neg hm]
  have hv1 : VS = (instA l (h0 + 1) 12622780799).take many.toNat := by rw [← HVS.out, someV, Hfs.out, if_pos hf1, someL, Hh0.out]
  have Hf := hid hf
  have Hf1 := hid hf1
  have Hv1 := hid hv1
  clear hm hf hf1 hv1
  obtain ⟨w3, hw3⟩ : ∃ w3, w2.alloc (.cells #[.slice none 0 0] 44) = w3 := ⟨_, rfl⟩
  have hB3 : Below w2.heap.size w2 w3 := by rw [← hw3]; exact below_new (Below.refl _ _) (Nat.le_refl _)
  have s3 : w3.heap.size = w2.heap.size + 1 := by rw [← hw3]; simp
  have kg : w3.cell? ⟨w2.heap.size, 0, none⟩ = some (.slice none 0 0) := by rw [← hw3]; simp [go_sem]
  have zg : w3.frozen? ⟨w2.heap.size, 0, none⟩ = false := by rw [← hw3]; simp [go_sem]
  have HB3 := hid (HB2.out.trans (hB3.mono HB2.out.size))
  have HB03 := hid (hB02.out.trans (hB3.mono hB02.out.size))
  have k53 := (hB3.cell (p := ⟨w.heap.size, 0, none⟩) (by have := HB2.out.size; have := S1.out; simp only []; omega)).trans j5
  have q3 := hid (cA2.out w3 HB3.out (h0 + 1) 12622780799 Hf.out)
  have Hw3 := hid hw3
  have S3 := hid s3
  obtain ⟨bg, hbg⟩ : ∃ b, w2.heap.size = b := ⟨_, rfl⟩
  have Hbg := hid hbg
  rw [hbg] at kg zg
  clear hw3 hB3 s3 cA2 hbg
  gi_wp2_with fail
  rw [Hw3.out, Hbg.out]
  refine (wf_calls.mpr (cH.out w3)).mono ?_
  rintro e wx ⟨rfl, hwx⟩
  rw [hwx]
  clear cH hwx
  gi_wp2_with fail
  refine (wf_calls.mpr q3.out).mono ?_
  rintro e w4 ⟨br, bk, bps, xe, xf, xu, xr, rfl, hB4, hS4, hM4⟩
  rw [show max (h0 + 1) 0 = h0 + 1 by omega, show min 12622780799 12622780799 = (12622780799 : Int) by omega] at hS4
  have tl := hid (SkTells_any (cs := l) (br := br) (bk := bk) (bps := bps) xe xf xu xr (h0 + 1) 12622780799 (by omega) (by omega))
  obtain ⟨L, hL⟩ : ∃ L, instA l (h0 + 1) 12622780799 = L := ⟨_, rfl⟩
  rw [hL] at tl Hv1
  have S12 : Hid (w.heap.size + 1 ≤ bg ∧ bg < w3.heap.size) := by
    have h1 := HB2.out.size; have h2 := S1.out; have h3 := Hbg.out; have h4 := S3.out
    show _ ∧ _; omega
  have HB4 := hid (HB03.out.trans (hB4.mono HB03.out.size))
  have HS4 := hid hS4
  have HM4 := hid hM4
  have I0 : Hid (SmI w.heap.size bg w4.heap.size many L 0 (fun b => b = bg ∨ b = w.heap.size) (fun _ => False) w4) := by
    have h1 := S12.out
    have h2 := hB4.size
    exact ⟨by omega, .slice none 0 0, ⟨(hB4.cell (p := ⟨bg, 0, none⟩) h1.2).trans kg, (hB4.cell (p := ⟨w.heap.size, 0, none⟩) (by simp only []; omega)).trans k53, World.ownsRow_nil _ _ _ _, (hB4.frozen (p := ⟨bg, 0, none⟩) h1.2).trans zg, by omega, by omega, by omega, Nat.le_refl _, .inl rfl, .inr rfl, (fun b h => nomatch h), fun b hb => by omega⟩⟩
  have HFO : Hid (∀ b, FSk w3 w4 b → ¬ (b = bg ∨ b = w.heap.size)) := fun b hb h => by
    have := S12.out; have := Ht0.out
    rcases hb with hb | hb <;> omega
  clear hB4 hS4 hM4 hL q3 kg zg k53 j5
  gi_wp2_with fail
  refine range_outerG (F := FSk w3 w4) (M := RM br bk bps) (gf := 47) (lb := #[.pointer (some ⟨xe, 0, none⟩), .pointer (some ⟨xf, 0, none⟩), .pointer (some ⟨xu, 0, none⟩), .pointer (some ⟨xr, 0, none⟩)]) rfl seekall_enters (fun b => b = bg ∨ b = w.heap.size)
    (fun k vs F W h => by obtain ⟨_, _, rfl⟩ := h; rfl) tl.out HSk.host HSk.host HSk.host HS4.out HFO.out
    (SmI w.heap.size bg w4.heap.size many L) (SmX w.heap.size bg w4.heap.size many L) (smI_stab _ _ _ _ _ _) (smX_stab _ _ _ _ _ _) (smI_lt _ _ _ _ _) (smX_lt _ _ _ _ _) I0.out
    (fun k O F a' W => SmI w.heap.size bg w4.heap.size many L k O F W ∧ ∃ x, L[k]? = some x ∧ SmT (.slice a l.length cap) (.int .i64 t) (.int .i64 many) undef undef (.pointer (some ⟨w.heap.size, 0, none⟩)) (.pointer (some ⟨bg, 0, none⟩)) (.int .i64 x) [] a')
    ?putl ?assign ?body ?done ?stop
  case putl =>
    rintro l' o k O F a' W hr hnO hnF ⟨h1, h2⟩
    exact ⟨smI_stab _ _ _ _ _ (RM br bk bps) k O F F W _ h1 (by rw [World.putObj_size]; exact Nat.le_refl _) (fun _ h => h) (fun b hb => World.putObj_heap_other (fun e => hb.elim (fun h => hnO (e ▸ h)) (fun h => hnF (e ▸ h.1)))), h2⟩
  case assign =>
    rintro l' k O6 F6 W6 vs K hk hI hFl ⟨x, hx, rfl⟩ hG6 hK
    have HI := hid hI
    have Hx := hid hx
    clear hI hx hG6 hFl
    gi_wp2
    exact hK _ O6 W6 (Grow.refl _ _) ⟨HI.out, x, Hx.out, SmT.of⟩
  case body =>
    rintro l3 k O6 F6 a' W6 hk hG6 hl3 hrec6 hnl3 hnF3 ⟨⟨hkm, v6, hC6⟩, x, hx, V, rfl⟩
    obtain ⟨hkl, hxe⟩ := List.getElem?_eq_some_iff.1 hx
    have ht := hid (take_snoc L k hkl)
    rw [hxe] at ht
    obtain ⟨h1, h2, h3, h4, h5, h6, h7, h8, g1, g2, g3, g4⟩ := hC6
    obtain ⟨a6, cap6, rfl, hs, hcap⟩ := owns_form h3
    have H3 := hid h3
    have G := hid (And.intro g1 (And.intro g2 (And.intro g3 g4)))
    clear g1 g2 g3 g4 hs h3 hx hxe hG6 hk
    gi_wp2_with (gi_at_builtin; refine app1In eI64 (.tmp 32) (.tmp 34) rfl rfl rfl rfl rfl H3.out rfl (by omega) (by omega) (by omega) ?_)
    intro a' cap' w' hown hg hb hf
    have e1 := grown_cell hg h1 (fun e => by have := owns_lt H3.out e; omega)
    have e2 := grown_cell hg h2 (fun e => by have := owns_lt H3.out e; omega)
    have Hown := hid hown
    have Hf2 := hid hf
    have Hb := hid hb
    have Hg := hid hg
    have hfz : w'.frozen? ⟨bg, 0, none⟩ = false := (hb.frozen (p := ⟨bg, 0, none⟩) h5).trans h4
    have hnb : bg ≠ w.heap.size := h7
    have hfin : Hid (∃ O' : Blk, Grow O6 O' W6 (w'.setCell ⟨bg, 0, none⟩ (.slice a' (k + 1) cap')) ∧ SmC w.heap.size bg w4.heap.size many L (k + 1) O' (w'.setCell ⟨bg, 0, none⟩ (.slice a' (k + 1) cap')) (.slice a' (k + 1) cap')) := by
      obtain ⟨g1, g2, g3, g4⟩ := G.out
      have hgr := Hg.out
      have hsz : W6.heap.size ≤ w'.heap.size := hgr.size
      have hs2 : (w'.setCell ⟨bg, 0, none⟩ (.slice a' (k + 1) cap')).heap.size = w'.heap.size := by simp [go_sem]
      refine ⟨fun b => O6 b ∨ (W6.heap.size ≤ b ∧ b < w'.heap.size), ⟨fun b h => .inl h, fun b h => h.imp id (·.1), ?_⟩, ?_, ?_, ?_, ?_, h5, h6, h7, by omega, .inl g1, .inl g2, fun b hb => ?_, fun b hb => ?_⟩
      · refine ⟨hgr.os, hgr.tape, hgr.output, by omega, fun b hb hn => ?_⟩
        have hne : b ≠ bg := fun e => hn (e ▸ g1)
        rw [Below.heap_setCell _ _ _ _ hne]
        exact hgr.block b hb (fun e => hn (g3 b e.symm))
      · simp [go_sem, e1]
      · exact (World.cell?_of_block (w := w') (a := ⟨w.heap.size, 0, none⟩) (Below.heap_setCell _ _ _ _ (by exact Ne.symm h7))).trans e2
      · rw [ht.out, ints_append, ints_one]; exact ownsRow_setCell_below Hown.out (by simpa using h5) _
      · simp [go_sem, hfz]
      · rcases Hf2.out b hb with h | h
        · exact .inl (g3 b h)
        · exact .inr ⟨h, (owns_lt Hown.out hb).2⟩
      · rcases hb with h | h
        · have := g4 b h; omega
        · omega
    clear hown hf hb hg h1 h2 h4
    by_cases hkm2 : (k : Int) + 1 = many
    · have d3 : ((k : Int) + 1 == many) = true := by simpa using hkm2
      have Hk := hid hkm2
      clear hkm2 hkm
      gi_wp2
      obtain ⟨O', hG, hC⟩ := hfin.out
      exact ⟨O', hG, rfl, by have := Hk.out; omega, _, hC⟩
    · have d3 : ((k : Int) + 1 == many) = false := by simpa using hkm2
      have Hk := hid (show ((k + 1 : Nat) : Int) < many by omega)
      clear hkm2 hkm
      gi_wp2
      obtain ⟨O', hG, hC⟩ := hfin.out
      exact ⟨O', hG, Hk.out, _, hC⟩
  case done =>
    rintro O9 F9 w9 hG9 hHN hFs hFn hFO9 ⟨hkm, v9, hC9⟩ hD hnD hnF
    have hv : Hid (VS = L) := by show _ = _; rw [Hv1.out]; exact List.take_of_length_le (by omega)
    obtain ⟨h1, h2, h3, h4, h5, h6, h7, h8, g1, g2, g3, g4⟩ := hC9
    rw [List.take_length] at h3
    have H3 := hid h3
    have G3 := hid g3
    have HD := hid hD
    have HND := hid hnD
    have HB9 : Hid (Below w.heap.size w w9) := HB4.out.trans (hG9.eff.below (fun b hb => by
      rcases hb with (h | h) | h
      · have := S12.out; omega
      · omega
      · have := HM4.out b h; have := S12.out; omega) HB4.out.size)
    clear hG9 hHN hFs hFn hFO9 hnD hnF hD h3 g3 g1 g2 g4 hkm
    gi_wp2
    refine ⟨by simp, .inl ⟨_, _, rfl, run_takeDeferred HD.out, ?_⟩⟩
    refine ⟨_, by simp [results, Tryz.results19, go_sem]; rfl, ⟨v9, by rw [Hf1.out], ?_⟩, below_putObj HB9.out HB4.out.size _⟩
    rw [hv.out]
    refine owns_agree (owns_base H3.out HB4.out.size) (fun b hb => World.putObj_heap_other (fun e => HND.out ?_))
    exact e ▸ G3.out b hb
  case stop =>
    rintro c k O9 F9 w9 hk1 hk2 hG9 hHN hFs hFn hFO9 ⟨rfl, hkm, v9, hC9⟩ hD hnD hnF
    have hkl : (L.take many.toNat).length = k := by rw [List.length_take]; omega
    have hv : Hid (VS = L.take k ∧ VS.length = k) := by
      show _ ∧ _
      rw [Hv1.out]
      exact ⟨by rw [show many.toNat = k by omega], hkl⟩
    obtain ⟨h1, h2, h3, h4, h5, h6, h7, h8, g1, g2, g3, g4⟩ := hC9
    have H3 := hid h3
    have G3 := hid g3
    have HD := hid hD
    have HND := hid hnD
    have HB9 : Hid (Below w.heap.size w w9) := HB4.out.trans (hG9.eff.below (fun b hb => by
      rcases hb with (h | h) | h
      · have := S12.out; omega
      · omega
      · have := HM4.out b h; have := S12.out; omega) HB4.out.size)
    clear hG9 hHN hFs hFn hFO9 hnD hnF hD h3 g3 g1 g2 g4 hkm hkl
    gi_wp2
    refine ⟨by simp, .inl ⟨_, _, rfl, run_takeDeferred HD.out, ?_⟩⟩
    refine ⟨_, by simp [results, Tryz.results19, go_sem]; rfl, ⟨v9, by rw [Hf1.out], ?_⟩, below_putObj HB9.out HB4.out.size _⟩
    rw [hv.out.2, hv.out.1]
    refine owns_agree (owns_base H3.out HB4.out.size) (fun b hb => World.putObj_heap_other (fun e => HND.out ?_))
    exact e ▸ G3.out b hb
end Go.Proofs.YtcbanlgnanihhaaGreatDoor
namespace Go.Proofs.YtcbanlgnanihhaaGreatDoor
open Go.RowKit Go.Maps
set_option linter.unusedVariables false

def atI (t : Int) (X : List Int) (i : Nat) : Int := if i = 0 then t else X.getD (i - 1) 0
theorem atI_zero (t : Int) (X : List Int) : atI t X 0 = t := rfl
theorem atI_succ (t : Int) (X : List Int) {i : Nat} (h : i < X.length) : atI t X (i + 1) = X[i] := by
  rw [atI, if_neg (by omega), show i + 1 - 1 = i by omega, List.getD_eq_getElem?_getD, List.getElem?_eq_getElem h]; rfl
theorem someA_mem {l : List Cl} {t y : Int} : y ∈ instA l (heldI t + 1) 12622780799 ↔ t < y ∧ instB l y = true := by
  rw [instA_mem]
  constructor
  · rintro ⟨h1, h2, h3⟩
    have := inst_win h3
    exact ⟨(held_lt this.1 this.2).1 h1, h3⟩
  · rintro ⟨h1, h3⟩
    have := inst_win h3
    exact ⟨(held_lt this.1 this.2).2 h1, by omega, h3⟩
theorem up_lt {L : List Int} (hp : L.Pairwise (· < ·)) {i j : Nat} (hi : i < L.length) (hj : j < L.length) : L[i] < L[j] ↔ i < j := by
  rw [List.pairwise_iff_getElem] at hp
  constructor
  · intro h
    rcases Nat.lt_trichotomy i j with h1 | h1 | h1
    · exact h1
    · subst h1; omega
    · have := hp j i hj hi h1; omega
  · exact hp i j hi hj
theorem some_next {l : List Cl} {t many : Int} {i : Nat} (hi : i < (someL l t many).length) : NextI l (atI t (someL l t many) i) (someL l t many)[i] := by
  have hp := instA_up l (heldI t + 1) 12622780799
  have hm := fun y => someA_mem (l := l) (t := t) (y := y)
  have hi' : i < ((instA l (heldI t + 1) 12622780799).take many.toNat).length := hi
  show NextI l (atI t ((instA l (heldI t + 1) 12622780799).take many.toNat) i) (((instA l (heldI t + 1) 12622780799).take many.toNat)[i]'hi')
  clear hi
  have hi := hi'
  have hg : ∀ j (h : j < ((instA l (heldI t + 1) 12622780799).take many.toNat).length), ((instA l (heldI t + 1) 12622780799).take many.toNat)[j] = (instA l (heldI t + 1) 12622780799)[j]'(by rw [List.length_take] at h; omega) := fun j h => List.getElem_take
  have ha : atI t ((instA l (heldI t + 1) 12622780799).take many.toNat) i = if i = 0 then t else (instA l (heldI t + 1) 12622780799).getD (i - 1) 0 := by
    cases i with
    | zero => rfl
    | succ i =>
      rw [atI_succ t _ (by omega), hg i (by omega), if_neg (by omega), show i + 1 - 1 = i by omega, List.getD_eq_getElem?_getD, List.getElem?_eq_getElem]; rfl
  rw [ha, hg i hi]
  have hi2 : i < (instA l (heldI t + 1) 12622780799).length := by rw [List.length_take] at hi; omega
  show NextI l (if i = 0 then t else (instA l (heldI t + 1) 12622780799).getD (i - 1) 0) ((instA l (heldI t + 1) 12622780799)[i]'hi2)
  clear ha hg hi hi'
  generalize instA l (heldI t + 1) 12622780799 = L at *
  have hx := (hm L[i]).1 (List.getElem_mem hi2)
  cases i with
  | zero =>
    refine ⟨hx.2, hx.1, fun y h1 h2 => ?_⟩
    cases e : instB l y
    · rfl
    · obtain ⟨j, hj, rfl⟩ := List.mem_iff_getElem.1 ((hm y).2 ⟨by simpa using h1, e⟩)
      have := (up_lt hp hj hi2).1 h2
      omega
  | succ i =>
    have hi3 : i < L.length := by omega
    have ea : (if i + 1 = 0 then t else L.getD (i + 1 - 1) 0) = L[i] := by
      rw [if_neg (by omega), show i + 1 - 1 = i by omega, List.getD_eq_getElem?_getD, List.getElem?_eq_getElem hi3]; rfl
    rw [ea]
    have hxi := (hm L[i]).1 (List.getElem_mem hi3)
    refine ⟨hx.2, (up_lt hp hi3 hi2).2 (by omega), fun y h1 h2 => ?_⟩
    cases e : instB l y
    · rfl
    · obtain ⟨j, hj, rfl⟩ := List.mem_iff_getElem.1 ((hm y).2 ⟨by omega, e⟩)
      have g1 := (up_lt hp hj hi2).1 h2
      have g2 := (up_lt hp hi3 hj).1 h1
      omega
theorem some_end {l : List Cl} {t many : Int} (h : ((someL l t many).length : Int) < many) {y : Int} (hy : atI t (someL l t many) (someL l t many).length < y) : instB l y = false := by
  have hp := instA_up l (heldI t + 1) 12622780799
  have hm := fun y => someA_mem (l := l) (t := t) (y := y)
  have hL : someL l t many = instA l (heldI t + 1) 12622780799 := by
    rw [someL] at h ⊢
    rw [List.length_take] at h
    exact List.take_of_length_le (by omega)
  rw [hL] at hy
  clear h hL
  generalize instA l (heldI t + 1) 12622780799 = L at *
  cases e : instB l y
  · rfl
  · rcases Nat.eq_zero_or_pos L.length with h0 | h0
    · rw [h0, atI_zero] at hy
      have := (hm y).2 ⟨hy, e⟩
      rw [List.length_eq_zero_iff.1 h0] at this; cases this
    · obtain ⟨n, hn⟩ : ∃ n, L.length = n + 1 := ⟨L.length - 1, by omega⟩
      have hn2 : n < L.length := by omega
      have e2 : atI t L L.length = L[n] := by rw [hn, atI_succ t L hn2]
      rw [e2] at hy
      have hln := (hm L[n]).1 (List.getElem_mem hn2)
      obtain ⟨j, hj, rfl⟩ := List.mem_iff_getElem.1 ((hm y).2 ⟨by omega, e⟩)
      have := (up_lt hp hn2 hj).1 hy
      omega
theorem some_all {l : List Cl} {t many : Int} {n : Nat} (hn : (someL l t many).length = n + 1) : instA l ((someL l t many)[0]'(by omega)) ((someL l t many)[n]'(by omega)) = someL l t many := by
  have hp := instA_up l (heldI t + 1) 12622780799
  have hm := fun y => someA_mem (l := l) (t := t) (y := y)
  have hps : (someL l t many).Pairwise (· < ·) := by rw [someL]; exact List.Pairwise.sublist (List.take_sublist _ _) hp
  have hsub : ∀ j (h : j < (someL l t many).length), ∃ h2 : j < (instA l (heldI t + 1) 12622780799).length, (someL l t many)[j] = (instA l (heldI t + 1) 12622780799)[j] := fun j h => by
    have h' := h
    rw [someL, List.length_take] at h'
    exact ⟨by omega, List.getElem_take⟩
  refine rising_ext (instA_up _ _ _) hps fun y => ?_
  rw [instA_mem]
  constructor
  · rintro ⟨h1, h2, h3⟩
    obtain ⟨g0, e0⟩ := hsub 0 (by omega)
    obtain ⟨gn, en⟩ := hsub n (by omega)
    rw [e0] at h1
    rw [en] at h2
    have ht := (hm _).1 (List.getElem_mem g0)
    obtain ⟨j, hj, rfl⟩ := List.mem_iff_getElem.1 ((hm y).2 ⟨by omega, h3⟩)
    have hjn : j ≤ n := by
      apply Nat.le_of_not_lt
      intro h4
      have := (up_lt hp gn hj).2 h4; omega
    obtain ⟨gj, ej⟩ := hsub j (by omega)
    rw [← ej]
    exact List.getElem_mem _
  · intro hy
    obtain ⟨j, hj, rfl⟩ := List.mem_iff_getElem.1 hy
    obtain ⟨gj, ej⟩ := hsub j hj
    refine ⟨?_, ?_, by rw [ej]; exact ((hm _).1 (List.getElem_mem gj)).2⟩
    · rcases Nat.eq_zero_or_pos j with h | h
      · subst h; omega
      · have := (up_lt hps (by omega) hj).2 h; omega
    · rcases Nat.lt_or_ge j n with h | h
      · have := (up_lt hps hj (show n < _ by omega)).2 h; omega
      · have : j = n := by omega
        subst this; omega
end Go.Proofs.YtcbanlgnanihhaaGreatDoor

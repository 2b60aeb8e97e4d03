/-
  The function that wide.All makes tells a set's numbers, word by word.
-/
import Derived.Test.YtdggflkkojmabaaDoorTodIter
import Derived.Test.YtdggflkkojmabaaDoorWideLaw
namespace Go.Proofs.YtdggflkkojmabaaDoor
open Go.RowKit
set_option linter.unusedVariables false
attribute [local go_sem] Oper.semAt_some

/-- the marks of loops that have been entered -/
def marks (Ds : List Nat) : List Deferred := Ds.map fun D => { target := .collected D, args := #[] }
theorem leaves_marks {F : Fence} {n : Nat} {P : Program} {fn : Func} {tmps : Array Value} {R : Ending → World → Prop} {u : FrameMode} (hu : u ≠ .run) : ∀ (Ds : List Nat) (w : World), Ds.Nodup → (∀ D ∈ Ds, w.heap[D]? = some (.deferred (some []))) →
    (∀ w' : World, w'.os = w.os → w'.tape = w.tape → w'.output = w.output → w'.heap.size = w.heap.size → (∀ b, b ∉ Ds → w'.heap[b]? = w.heap[b]?) → LeavesInM F n P fn tmps R [] u w') → LeavesInM F n P fn tmps R (marks Ds) u w
  | [], w, _, _, h => h w rfl rfl rfl rfl (fun _ _ => rfl)
  | D :: Ds, w, hn, hD, h => by
    rw [List.nodup_cons] at hn
    refine ⟨hu, .inl ⟨D, _, rfl, run_takeDeferred (hD D (by simp)), ?_⟩⟩
    refine leaves_marks hu Ds _ hn.2 (fun E hE => (World.putObj_heap_other (fun e => hn.1 (by rw [← e]; exact hE))).trans (hD E (by simp [hE]))) (fun w' h1 h2 h3 h4 h5 => h w' h1 h2 h3 (by rw [h4, World.putObj_size]) (fun b hb => ?_))
    simp only [List.mem_cons, not_or] at hb
    exact (h5 b hb.2).trans (World.putObj_heap_other hb.1)

theorem stab_marks {I : OwnP} (hI : StabO I) {k : Nat} {O : Nat → Prop} {w w' : World} {Ds : List Nat} (h : I k O w) (hn : ∀ D ∈ Ds, ¬ O D) (hs : w'.heap.size = w.heap.size) (hb : ∀ b, b ∉ Ds → w'.heap[b]? = w.heap[b]?) : I k O w' :=
  hI k O w w' h (by omega) (fun b hb2 => hb b (fun h2 => hn b h2 hb2))
theorem eff_marks {O : Nat → Prop} {W w w' : World} {Ds : List Nat} (h : Eff O W w) (hn : ∀ D ∈ Ds, W.heap.size ≤ D) (h1 : w'.os = w.os) (h2 : w'.tape = w.tape) (h3 : w'.output = w.output) (hs : w'.heap.size = w.heap.size) (hb : ∀ b, b ∉ Ds → w'.heap[b]? = w.heap[b]?) : Eff O W w' :=
  ⟨h1.trans h.os, h2.trans h.tape, h3.trans h.output, by rw [hs]; exact h.size, fun k hk hno => (hb k (fun h4 => by have := hn k h4; omega)).trans (h.block k hk hno)⟩

set_option maxRecDepth 100000 in
set_option maxHeartbeats 3200000 in
theorem WideIter_any (t : Nat → Nat) (b1 : Nat) (y : Value) (J Jx : OwnP) (O : Nat → Prop) (W : World) (ht : ∀ i, i < 7 → t i < 18446744073709551616)
    (hC : Client2 Tryd.prog y (wupto t 7) J Jx O W) (hJ : J 0 O W) (hb1 : b1 < W.heap.size) (hn1 : ¬ O b1) (hc1 : WCells W b1 t) (hT : Tab W) (hTO : ¬ O 0) :
    Calls Tryd.prog 95 #[y, .pointer (some ⟨b1, 0, none⟩)] W fun e W' => (∃ v, e = .returned v) ∧ Told (wupto t 7) J Jx O W W' := by
  obtain ⟨yf, yi, yc, rfl⟩ := hC.form
  have HC := hid hC
  have HT := hid hT
  have hT0 := hT.1
  have HN := hid hTO
  obtain ⟨W1, hW1⟩ : ∃ W1, W.alloc (.cells #[.func yf yi yc] 35) = W1 := ⟨_, rfl⟩
  have q3 : W1.heap.size = W.heap.size + 1 := by rw [← hW1]; simp
  have q4 : Below W.heap.size W W1 := by rw [← hW1]; exact below_new (Below.refl _ _) (Nat.le_refl _)
  have q5 : W1.cell? ⟨W.heap.size, 0, none⟩ = some (.func yf yi yc) := by rw [← hW1]; simp [go_sem]
  obtain ⟨r0, r1, r2, r3, r4, r5, r6⟩ := (hc1.below q4 hb1).all
  have HW1 := hid hW1
  have ey := hid q5
  have Q4 := hid q4
  have HJ1 : Hid (J 0 O W1) := stab_below hC.stab hC.lt hJ q4
  have Hlt := hid (hC.lt 0 O W hJ)
  have Ht := hid ht
  have tells := hid (fun i hi b' Ow w (h1 : b' < w.heap.size) h2 h3 h4 h5 => mask_tells2 (t i) b' Ow w (ht i hi) h1 h2 h3 h4 h5)
  clear hC hT hJ hTO q4 q5 hc1 hW1 ht
  refine (wf_calls (r := none) (n := 1)).mp ?_
  refine callsIn_of_wp_marks Tryd.func95 rfl trivial ?_ rfl
  simp only [Tryd.ntmps95, List.size_toArray, List.length_cons, List.length_nil, Nat.reduceAdd, Nat.reduceSub, Array.replicate_succ, Array.replicate_zero, List.push_toArray, List.append_toArray, List.nil_append, List.cons_append]
  gi_wp2_with fail
  refine wpIn_scope ?_
  rw [HW1.out]
  gi_wp2_with fail
  refine wpIn_label ?_
  gi_wp2_with fail
  refine wpIn_loop (fun a' w' => ∃ (i : Nat) (u3 u4 u5 u8 u9 u10 u11 u12 u13 u14 u15 u16 u17 u18 u19 u20 u21 u22 : Value) (Ds : List Nat) (O' : Nat → Prop), i ≤ 7 ∧ a' = { tmps := #[.func yf yi yc, .pointer (some ⟨b1, 0, none⟩), .pointer (some ⟨W.heap.size, 0, none⟩), u3, u4, u5, wv t, .int .i64 (i : Nat), u8, u9, u10, u11, u12, u13, u14, u15, u16, u17, u18, u19, u20, u21, u22], defers := marks Ds } ∧ Hid (J (wupto t i).length O' w' ∧ Grow O O' W1 w' ∧ (∀ D ∈ Ds, w'.heap[D]? = some (.deferred (some [])) ∧ ¬ O' D ∧ W1.heap.size ≤ D) ∧ Ds.Nodup))
    (fun a' _ => 7 - (intOf (a'.tmps.getD 7 undef)).toNat) ?start ?round
  case start => exact ⟨0, _, _, _, _, _, _, _, _, _, _, _, _, _, _, _, _, _, _, [], O, by omega, rfl, HJ1.out, Grow.refl _ _, fun D h => (by cases h), List.nodup_nil⟩
  case round =>
    rintro a' w2 ⟨i, u3, u4, u5, u8, u9, u10, u11, u12, u13, u14, u15, u16, u17, u18, u19, u20, u21, u22, Ds, O2, hi, rfl, HI⟩
    by_cases hlt : i < 7
    · obtain ⟨hJ2, hG2, hDs, hnd⟩ := HI.out
      have hyl : W.heap.size < W1.heap.size := by omega
      have nO : ¬ O W.heap.size := fun h => by have := Hlt.out _ h; omega
      obtain ⟨wA, hwA⟩ : ∃ wA, w2.alloc (.cells #[.int .i64 (i : Nat)] 3) = wA := ⟨_, rfl⟩
      have sA : wA.heap.size = w2.heap.size + 1 := by rw [← hwA]; simp
      have bA : Below w2.heap.size w2 wA := by rw [← hwA]; exact below_new (Below.refl _ _) (Nat.le_refl _)
      have cA : wA.cell? ⟨w2.heap.size, 0, none⟩ = some (.int .i64 (i : Nat)) := by rw [← hwA]; simp [go_sem]
      have HMA := MAll_one (t i) wA (Ht.out i hlt)
      rw [sA] at HMA
      have HM := hid HMA
      have hix := fun W => run_index_wv t i hlt W
      have HwA := hid hwA
      have BA := hid bA
      have CA := hid cA
      clear HMA hwA bA cA hJ2 hG2 hDs hnd
      gi_wp2_with fail
      rw [HwA.out]
      refine (wf_calls.mpr HM.out).mono ?_
      rintro e w3 ⟨rfl, hm1, hm2, hm3⟩
      have hB23 : Below w2.heap.size w2 w3 := BA.out.trans (hm2.mono (by omega))
      have HB23 := hid hB23
      obtain ⟨hJ2, hG2, hDs, hnd⟩ := HI.out
      have hlt2 := HC.out.lt _ _ _ hJ2
      have GG : Hid (Grow O O2 W w3) := (Grow.of_below Q4.out).trans (hG2.trans (Grow.of_below hB23))
      have hT3 := (((HT.out.later Q4.out).eff hG2.eff HN.out).later hB23)
      have tl := hid (tells.out i hlt (w2.heap.size + 1 + 1) O2 w3 hm3 (fun h => by have := hlt2 _ h; omega) hm1 hT3 (hG2.not (b := 0) (by have := (HT.out.later Q4.out).1; omega) HN.out))
      have ey3 := hid ((hB23.cell (p := ⟨W.heap.size, 0, none⟩) (by have := hG2.eff.size; simp only []; omega)).trans ((hG2.cell hyl nO 0).trans ey.out))
      have ci3 := hid ((hm2.cell (p := ⟨w2.heap.size, 0, none⟩) (by simp only []; omega)).trans CA.out)
      have NO2 := hid (And.intro (hG2.not hyl nO) (show ¬ O2 w2.heap.size from fun h => by have := hlt2 _ h; omega))
      have s12 := hG2.eff.size
      have s23 := hB23.size
      have HJ3 : Hid (J (wupto t i).length O2 w3) := stab_below HC.out.stab HC.out.lt hJ2 hB23
      have HDs := hid (fun D hD => (⟨(hB23.block D (heap_lt (hDs D hD).1)).trans (hDs D hD).1, (hDs D hD).2.1, (hDs D hD).2.2, heap_lt (hDs D hD).1⟩ : w3.heap[D]? = some (.deferred (some [])) ∧ ¬ O2 D ∧ W1.heap.size ≤ D ∧ D < w2.heap.size))
      have Hnd := hid hnd
      have HG12 := hid hG2
      clear hm1 hm2 hB23 hJ2 hG2 hDs hnd hT3 HM
      gi_wp2_with fail
      refine range_outer2 (gf := 80) (lb := #[.pointer (some ⟨w2.heap.size + 1 + 1, 0, none⟩)]) rfl mask_enters (sel (t i).testBit 64) O2 rfl tl.out
        (fun k O W => J ((wupto t i).length + k) O W) (fun c k O W => c = .exit 0 ∧ ∃ q, 1 ≤ q ∧ q ≤ (wupto t 7).length ∧ Jx q O W)
        (fun k O W W' h hs hO => HC.out.stab _ O W W' h hs hO) (fun c k O W W' h hs hO => ⟨h.1, by obtain ⟨q, h1, h2, h3⟩ := h.2; exact ⟨q, h1, h2, HC.out.stabx _ O W W' h3 hs hO⟩⟩)
        (fun k O W h => HC.out.lt _ O W h) (fun c k O W h => by obtain ⟨_, q, h1, h2, h3⟩ := h; exact HC.out.ltx _ O W h3) (by simpa using HJ3.out)
        (fun k O a' W' => J ((wupto t i).length + k) O W' ∧ ∃ x, (sel (t i).testBit 64)[k]? = some x ∧ a' = { tmps := #[.func yf yi yc, .pointer (some ⟨b1, 0, none⟩), .pointer (some ⟨W.heap.size, 0, none⟩), .pointer (some ⟨w2.heap.size, 0, none⟩), .int .u64 (t i : Nat), .int .i64 x, wv t, .int .i64 (i : Nat), .bool true, .int .i64 (i : Nat), .int .u64 (t i : Nat), .int .u64 (t i : Nat), .slice (some ⟨w2.heap.size + 1, 0, none⟩) 1 1, .func (.func 80) #[] #[.pointer (some ⟨w2.heap.size + 1 + 1, 0, none⟩)], .int .i64 x, u15, u16, u17, u18, u19, u20, u21, u22], defers := [] })
        (fun l o k O a' W' hr hn h => ⟨stab_put HC.out.stab h.1 hn o, h.2⟩) ?assign ?body ?done ?stop
      case assign =>
        intro l k O6 W6 K hk hJ6 hG6 hK
        gi_wp2
        exact hK _ O6 _ (Grow.refl _ _) ⟨hJ6, _, List.getElem?_eq_getElem hk, rfl⟩
      case body =>
        rintro l3 k O6 a' W6 hk hG6 hl3 hrec6 hnl3 ⟨hJ6, x, ex, rfl⟩
        have ey6 := (hG6.cell (b := W.heap.size) (by omega) NO2.out.1 0).trans ey3.out
        have ci6 := (hG6.cell (b := w2.heap.size) (by omega) NO2.out.2 0).trans ci3.out
        have hat := wupto_at t 7 i k hlt hk
        obtain ⟨hidx, hval⟩ := List.getElem?_eq_some_iff.1 hat
        have hcall := HC.out.call _ O6 W6 hidx hJ6 (GG.out.trans hG6)
        obtain ⟨_, ex'⟩ := List.getElem?_eq_some_iff.1 ex
        have bx := sel_bd (p := (t i).testBit) k hk
        rw [ex'] at bx
        rw [hval, ex', show ((64 * i : Nat) : Int) + x = (i : Int) * 64 + x by omega] at hcall
        have Hcall := hid hcall
        have Hidx := hid hidx
        obtain ⟨x1, x2⟩ := bx
        clear hcall hidx hval ex' hJ6 hG6 hat ex
        gi_wp2_with (refine callv (.tmp 15) (.tmp 19) _ rfl rfl rfl rfl Hcall.out ?_)
        rintro e W7 O7 h1 h2 h3 hend
        rcases hend with ⟨rfl, hJ7⟩ | ⟨rfl, hJ7⟩
        · have HJ7 : Hid (Grow O6 O7 W6 W7 ∧ J ((wupto t i).length + (k + 1)) O7 W7) := ⟨⟨h1, h2, h3⟩, hJ7⟩
          clear h1 h2 h3 hJ7
          refine ⟨_, rfl, ?_⟩
          gi_wp2
          exact ⟨O7, HJ7.out.1, HJ7.out.2⟩
        · have HJ7 : Hid (Grow O6 O7 W6 W7 ∧ ∃ q, 1 ≤ q ∧ q ≤ (wupto t 7).length ∧ Jx q O7 W7) := ⟨⟨h1, h2, h3⟩, _, by omega, Nat.succ_le_of_lt Hidx.out, hJ7⟩
          clear h1 h2 h3 hJ7
          refine ⟨_, rfl, ?_⟩
          gi_wp2
          exact ⟨O7, HJ7.out.1, rfl, HJ7.out.2⟩
      case done =>
        intro O9 w9 hG9 hJ9 hD hnD
        have hall : ∀ D ∈ w3.heap.size :: Ds, w9.heap[D]? = some (.deferred (some [])) ∧ ¬ O9 D ∧ W1.heap.size ≤ D := by
          intro E hE
          rcases List.mem_cons.mp hE with rfl | hE
          · exact ⟨hD, hnD, by omega⟩
          · obtain ⟨e1, e2, e3, e4⟩ := HDs.out E hE
            exact ⟨(hG9.eff.block E (by omega) e2).trans e1, hG9.not (by omega) e2, e3⟩
        have hnn : (w3.heap.size :: Ds).Nodup := List.nodup_cons.mpr ⟨fun h => by have := (HDs.out _ h).2.2.2; omega, Hnd.out⟩
        have hlen : (wupto t (i + 1)).length = (wupto t i).length + (sel (t i).testBit 64).length := by rw [wupto, List.length_append, wpart, List.length_map]
        have HE : Hid (J (wupto t (i + 1)).length O9 w9 ∧ Grow O O9 W1 w9 ∧ (∀ D ∈ w3.heap.size :: Ds, w9.heap[D]? = some (.deferred (some [])) ∧ ¬ O9 D ∧ W1.heap.size ≤ D) ∧ (w3.heap.size :: Ds).Nodup) :=
          ⟨by rw [hlen]; exact hJ9, HG12.out.trans ((Grow.of_below HB23.out).trans hG9), hall, hnn⟩
        clear hall hnn hlen hJ9 hG9
        gi_wp2
        exact ⟨⟨i + 1, _, _, _, _, _, _, _, _, _, _, _, _, _, _, _, _, _, _, w3.heap.size :: Ds, O9, by omega, rfl, HE.out⟩, by simp [intOf]; omega⟩
      case stop =>
        rintro c k O9 w9 hk1 hk2 hG9 ⟨rfl, q, hq1, hq2, hJ9⟩ hD hnD
        have hall : ∀ D ∈ w3.heap.size :: Ds, w9.heap[D]? = some (.deferred (some [])) ∧ ¬ O9 D ∧ W1.heap.size ≤ D := by
          intro E hE
          rcases List.mem_cons.mp hE with rfl | hE
          · exact ⟨hD, hnD, by omega⟩
          · obtain ⟨e1, e2, e3, e4⟩ := HDs.out E hE
            exact ⟨(hG9.eff.block E (by omega) e2).trans e1, hG9.not (by omega) e2, e3⟩
        have hnn : (w3.heap.size :: Ds).Nodup := List.nodup_cons.mpr ⟨fun h => by have := (HDs.out _ h).2.2.2; omega, Hnd.out⟩
        have hG := GG.out.trans hG9
        gi_wp2
        rw [Exit.noGoto_normal]
        refine leaves_marks (by simp) (w3.heap.size :: Ds) w9 hnn (fun D hD => (hall D hD).1) ?_
        intro w' e1 e2 e3 e4 e5
        exact ⟨_, results_none rfl _ _ _, ⟨_, rfl⟩, O9, hG.sub, hG.new, eff_marks hG.eff (fun D hD => by have := (hall D hD).2.2; omega) e1 e2 e3 e4 e5, .inr ⟨q, hq1, hq2, stab_marks HC.out.stabx hJ9 (fun D hD => (hall D hD).2.1) e4 e5⟩⟩
    · obtain rfl : i = 7 := by omega
      obtain ⟨hJ2, hG2, hDs, hnd⟩ := HI.out
      have hG := (Grow.of_below (O := O) Q4.out).trans hG2
      have HH := hid (And.intro hJ2 (And.intro hG (And.intro hDs hnd)))
      clear hJ2 hG2 hDs hnd hG
      gi_wp2
      rw [Exit.noGoto_normal]
      obtain ⟨hJ2, hG, hDs, hnd⟩ := HH.out
      refine leaves_marks (by simp) Ds w2 hnd (fun D hD => (hDs D hD).1) ?_
      intro w' e1 e2 e3 e4 e5
      exact ⟨_, results_none rfl _ _ _, ⟨_, rfl⟩, O2, hG.sub, hG.new, eff_marks hG.eff (fun D hD => by have := (hDs D hD).2.2; omega) e1 e2 e3 e4 e5, .inl (stab_marks HC.out.stab hJ2 (fun D hD => (hDs D hD).2.1) e4 e5)⟩
end Go.Proofs.YtdggflkkojmabaaDoor

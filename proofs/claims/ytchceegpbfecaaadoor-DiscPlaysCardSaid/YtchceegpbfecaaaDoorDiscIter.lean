/-
  The function that a disc's All makes tells its seconds, word by word.
-/
import Derived.Test.YtchceegpbfecaaaDoorDiscJoin
import Derived.Test.YtchceegpbfecaaaDoorWideIter
namespace Go.Proofs.YtchceegpbfecaaaDoor
open Go.RowKit
set_option linter.unusedVariables false
attribute [local go_sem] zvalw znew
attribute [local go_sem] Oper.semAt_some

set_option maxRecDepth 100000 in
set_option maxHeartbeats 1600000 in
theorem DcAll_any (b : Nat) (f : Nat → Nat) (w : World) (hc : DC w b f) (hb : b < w.heap.size) :
    Calls Tryd.prog 19 #[.pointer (some ⟨b, 0, none⟩)] w fun e w' => e = .returned (.func (.func 26) #[] #[.pointer (some ⟨w.heap.size, 0, none⟩)]) ∧ DC w' w.heap.size f ∧ Below w.heap.size w w' ∧ w.heap.size < w'.heap.size := by
  obtain ⟨W1, hW1⟩ : ∃ W1, w.alloc (.cells zcells44 44) = W1 := ⟨_, rfl⟩
  have q1 : DC W1 w.heap.size (fun _ => 0) := by rw [← hW1]; exact dc_new' w
  have q2 : ∀ i, W1.frozen? ⟨w.heap.size, i, none⟩ = false := fun i => by rw [← hW1]; exact frozen_fresh w _ _ i
  have q3 : Below w.heap.size w W1 := by rw [← hW1]; exact below_new (Below.refl _ _) (Nat.le_refl _)
  have q4 : W1.heap.size = w.heap.size + 1 := by rw [← hW1]; simp
  have hu : Upd w.heap.size (fun _ => 0) W1 W1 := ⟨q1, q2, fun _ _ => by omega, Eff.refl _ _⟩
  have hrg := hid (dc_range (hc.below q3 hb))
  have hth := hid (hu.there' f)
  have hst := hid (hu.all f)
  have HW1 := hid hW1
  have Q3 := hid q3
  clear hW1 q1 q2 q3 hc hu
  go_enter Tryd.func19, Tryd.ntmps19
  go_wp2_with fail
  rw [HW1.out]
  refine wp_load_mid 44 (.tmp 8) rfl b 0 rfl _ _ hrg.out Tryd.underlying44 rfl (by rw [List.length_map, List.length_range]; exact infoDisc) ?_
  obtain ⟨cs, hcs⟩ : ∃ cs : List Value, (List.range 1350).map (fun i => Value.int .u64 (f i : Nat)) = cs := ⟨_, rfl⟩
  have h1350 : cs.length = 1350 := by rw [← hcs, List.length_map, List.length_range]
  have hone : cs.toArray.all (·.oneCell') = true := by rw [← hcs]; simp [Value.oneCell']
  rw [hcs] at hst hth ⊢
  have Hone := hid hone
  have H1350 := hid h1350
  clear hcs hrg hone h1350
  go_wp2_with (refine wpList_store_mid rfl 44 (.tmp 3) (.tmp 9) rfl w.heap.size 0 cs.toArray rfl rfl hth.out (by rw [List.size_toArray, H1350.out]; exact infoDisc) Hone.out ?_)
  go_ret
  exact ⟨rfl, hst.out.1, Q3.out.trans (hst.out.2.below (by rintro b rfl; exact Nat.le_refl _) (by omega)), by have := hst.out.2.size; omega⟩

set_option maxRecDepth 100000 in
set_option maxHeartbeats 3200000 in
theorem DiscIter_any (t : Nat → Nat) (b1 : Nat) (y : Value) (J Jx : OwnP) (O : Nat → Prop) (W : World) (ht : ∀ i, i < 1350 → t i < 18446744073709551616)
    (hC : Client2 Tryd.prog y (wupto t 1350) J Jx O W) (hJ : J 0 O W) (hb1 : b1 < W.heap.size) (hn1 : ¬ O b1) (hc1 : DC W b1 t) (hT : Tab W) (hTO : ¬ O 0) :
    Calls Tryd.prog 26 #[y, .pointer (some ⟨b1, 0, none⟩)] W fun e W' => (∃ v, e = .returned v) ∧ Told (wupto t 1350) J Jx O W W' := by
  obtain ⟨yf, yi, yc, rfl⟩ := hC.form
  have HC := hid hC
  have HT := hid hT
  have hT0 := hT.1
  have HN := hid hTO
  have HN1 := hid hn1
  obtain ⟨W1, hW1⟩ : ∃ W1, W.alloc (.cells #[.func yf yi yc] 37) = W1 := ⟨_, rfl⟩
  have q3 : W1.heap.size = W.heap.size + 1 := by rw [← hW1]; simp
  have q4 : Below W.heap.size W W1 := by rw [← hW1]; exact below_new (Below.refl _ _) (Nat.le_refl _)
  have q5 : W1.cell? ⟨W.heap.size, 0, none⟩ = some (.func yf yi yc) := by rw [← hW1]; simp [go_sem]
  have HD1 := hid (hc1.below q4 hb1)
  have HW1 := hid hW1
  have ey := hid q5
  have Q4 := hid q4
  have HJ1 : Hid (J 0 O W1) := stab_below hC.stab hC.lt hJ q4
  have Hlt := hid (hC.lt 0 O W hJ)
  have Ht := hid ht
  have tells := hid (fun i hi b' Ow w (h1 : b' < w.heap.size) h2 h3 h4 h5 => mask_tells2 (t i) b' Ow w (ht i hi) h1 h2 h3 h4 h5)
  clear hC hT hJ hTO q4 q5 hc1 hW1 ht hn1
  refine (wf_calls (r := none) (n := 1)).mp ?_
  refine callsIn_of_wp_marks Tryd.func26 rfl trivial ?_ rfl
  simp only [Tryd.ntmps26, List.size_toArray, List.length_cons, List.length_nil, Nat.reduceAdd, Nat.reduceSub, Array.replicate_succ, Array.replicate_zero, List.push_toArray, List.append_toArray, List.nil_append, List.cons_append]
  gi_wp2_with fail
  refine wpIn_scope ?_
  rw [HW1.out]
  gi_wp2_with fail
  refine wpIn_label ?_
  gi_wp2_with fail
  refine wpIn_loop (fun a' w' => ∃ (i : Nat) (u3 u4 u6 u7 u8 u9 u10 u11 u12 u13 u14 u15 u16 u17 u18 u19 u20 u21 : Value) (Ds : List Nat) (O' : Nat → Prop), i ≤ 1350 ∧ a' = { tmps := #[.func yf yi yc, .pointer (some ⟨b1, 0, none⟩), .pointer (some ⟨W.heap.size, 0, none⟩), u3, u4, .int .i64 (i : Nat), u6, u7, u8, u9, u10, u11, u12, u13, u14, u15, u16, u17, u18, u19, u20, u21], defers := marks Ds } ∧ Hid (J (wupto t i).length O' w' ∧ Grow O O' W1 w' ∧ (∀ D ∈ Ds, w'.heap[D]? = some (.deferred (some [])) ∧ ¬ O' D ∧ W1.heap.size ≤ D) ∧ Ds.Nodup))
    (fun a' _ => 1350 - (intOf (a'.tmps.getD 5 undef)).toNat) ?start ?round
  case start => exact ⟨0, _, _, _, _, _, _, _, _, _, _, _, _, _, _, _, _, _, _, [], O, by omega, rfl, HJ1.out, Grow.refl _ _, fun D h => (by cases h), List.nodup_nil⟩
  case round =>
    rintro a' w2 ⟨i, u3, u4, u6, u7, u8, u9, u10, u11, u12, u13, u14, u15, u16, u17, u18, u19, u20, u21, Ds, O2, hi, rfl, HI⟩
    by_cases hlt : i < 1350
    · obtain ⟨hJ2, hG2, hDs, hnd⟩ := HI.out
      have hyl : W.heap.size < W1.heap.size := by omega
      have nO : ¬ O W.heap.size := fun h => by have := Hlt.out _ h; omega
      obtain ⟨wA, hwA⟩ : ∃ wA, w2.alloc (.cells #[.int .i64 (i : Nat)] 3) = wA := ⟨_, rfl⟩
      have sA : wA.heap.size = w2.heap.size + 1 := by rw [← hwA]; simp
      have bA : Below w2.heap.size w2 wA := by rw [← hwA]; exact below_new (Below.refl _ _) (Nat.le_refl _)
      have cA : wA.cell? ⟨w2.heap.size, 0, none⟩ = some (.int .i64 (i : Nat)) := by rw [← hwA]; simp [go_sem]
      have sb1 : b1 < w2.heap.size := by have := hG2.eff.size; omega
      have eb0 : w2.cell? ⟨b1, i, none⟩ = some (.int .u64 (t i : Nat)) := ((hG2.cell (by omega) HN1.out i).trans (HD1.out i hlt))
      have eb1 : (w2.alloc (.cells #[.int .i64 (i : Nat)] 3)).cell? ⟨b1, i, none⟩ = some (.int .u64 (t i : Nat)) := by rw [hwA]; exact (bA.cell (p := ⟨b1, i, none⟩) sb1).trans eb0
      have HMA := MAll_one (t i) wA (Ht.out i hlt)
      rw [sA] at HMA
      have HM := hid HMA
      have HwA := hid hwA
      have BA := hid bA
      have CA := hid cA
      have hiI : (i : Int) < 1350 := by omega
      clear HMA hwA bA hJ2 hG2 hDs hnd
      gi_wp2_with fail
      rw [HwA.out]
      refine (wf_calls.mpr HM.out).mono ?_
      rintro e w3 ⟨rfl, hm1, hm2, hm3⟩
      have hB23 : Below w2.heap.size w2 w3 := BA.out.trans (hm2.mono (by omega))
      have HB23 := hid hB23
      obtain ⟨hJ2, hG2, hDs, hnd⟩ := HI.out
      have hlt2 := HC.out.lt _ _ _ hJ2
      have GG : Hid (Grow O O2 W w3) := (Grow.of_below Q4.out).trans (hG2.trans (Grow.of_below hB23))
      have hT3 := (((HT.out.later Q4.out).eff hG2.eff HN.out).later hB23)
      have tl := hid (tells.out i hlt (w2.heap.size + 1 + 1) O2 w3 hm3 (fun h => by have := hlt2 _ h; omega) hm1 hT3 (hG2.not (b := 0) (by have := (HT.out.later Q4.out).1; omega) HN.out))
      have ey3 := hid ((hB23.cell (p := ⟨W.heap.size, 0, none⟩) (by have := hG2.eff.size; simp only []; omega)).trans ((hG2.cell hyl nO 0).trans ey.out))
      have ci3 := hid ((hm2.cell (p := ⟨w2.heap.size, 0, none⟩) (by simp only []; omega)).trans CA.out)
      have NO2 := hid (And.intro (hG2.not hyl nO) (show ¬ O2 w2.heap.size from fun h => by have := hlt2 _ h; omega))
      have s12 := hG2.eff.size
      have s23 := hB23.size
      have HJ3 : Hid (J (wupto t i).length O2 w3) := stab_below HC.out.stab HC.out.lt hJ2 hB23
      have HDs := hid (fun D hD => (⟨(hB23.block D (heap_lt (hDs D hD).1)).trans (hDs D hD).1, (hDs D hD).2.1, (hDs D hD).2.2, heap_lt (hDs D hD).1⟩ : w3.heap[D]? = some (.deferred (some [])) ∧ ¬ O2 D ∧ W1.heap.size ≤ D ∧ D < w2.heap.size))
      have Hnd := hid hnd
      have HG12 := hid hG2
      clear hm1 hm2 hB23 hJ2 hG2 hDs hnd hT3 HM cA eb0 eb1 sb1
      gi_wp2_with fail
      refine range_outer2 (gf := 31) (lb := #[.pointer (some ⟨w2.heap.size + 1 + 1, 0, none⟩)]) rfl mask_enters (sel (t i).testBit 64) O2 rfl tl.out
        (fun k O W => J ((wupto t i).length + k) O W) (fun c k O W => c = .exit 0 ∧ ∃ q, 1 ≤ q ∧ q ≤ (wupto t 1350).length ∧ Jx q O W)
        (fun k O W W' h hs hO => HC.out.stab _ O W W' h hs hO) (fun c k O W W' h hs hO => ⟨h.1, by obtain ⟨q, h1, h2, h3⟩ := h.2; exact ⟨q, h1, h2, HC.out.stabx _ O W W' h3 hs hO⟩⟩)
        (fun k O W h => HC.out.lt _ O W h) (fun c k O W h => by obtain ⟨_, q, h1, h2, h3⟩ := h; exact HC.out.ltx _ O W h3) (by simpa using HJ3.out)
        (fun k O a' W' => J ((wupto t i).length + k) O W' ∧ ∃ x, (sel (t i).testBit 64)[k]? = some x ∧ a' = { tmps := #[.func yf yi yc, .pointer (some ⟨b1, 0, none⟩), .pointer (some ⟨W.heap.size, 0, none⟩), .pointer (some ⟨w2.heap.size, 0, none⟩), .int .i64 x, .int .i64 (i : Nat), .bool true, .int .i64 (i : Nat), .int .i64 (i : Nat), .pointer (some ⟨b1, i, none⟩), .int .u64 (t i : Nat), .slice (some ⟨w2.heap.size + 1, 0, none⟩) 1 1, .func (.func 31) #[] #[.pointer (some ⟨w2.heap.size + 1 + 1, 0, none⟩)], .int .i64 x, u14, u15, u16, u17, u18, u19, u20, u21], defers := [] })
        (fun l o k O a' W' hr hn h => ⟨stab_put HC.out.stab h.1 hn o, h.2⟩) ?assign ?body ?done ?stop
      case assign =>
        intro l k O6 W6 K hk hJ6 hG6 hK
        gi_wp2
        exact hK _ O6 _ (Grow.refl _ _) ⟨hJ6, _, List.getElem?_eq_getElem hk, rfl⟩
      case body =>
        rintro l3 k O6 a' W6 hk hG6 hl3 hrec6 hnl3 ⟨hJ6, x, ex, rfl⟩
        have ey6 := (hG6.cell (b := W.heap.size) (by omega) NO2.out.1 0).trans ey3.out
        have ci6 := (hG6.cell (b := w2.heap.size) (by omega) NO2.out.2 0).trans ci3.out
        have hat := wupto_at t 1350 i k hlt hk
        obtain ⟨hidx, hval⟩ := List.getElem?_eq_some_iff.1 hat
        have hcall := HC.out.call _ O6 W6 hidx hJ6 (GG.out.trans hG6)
        obtain ⟨_, ex'⟩ := List.getElem?_eq_some_iff.1 ex
        have bx := sel_bd (p := (t i).testBit) k hk
        rw [ex'] at bx
        rw [hval, ex', show ((64 * i : Nat) : Int) + x = (i : Int) * 64 + x by omega] at hcall
        have Hcall := hid hcall
        have Hidx := hid hidx
        obtain ⟨x1, x2⟩ := bx
        clear hcall hidx hval ex' hJ6 hG6 hat ex
        gi_wp2_with (refine callv (.tmp 14) (.tmp 18) _ rfl rfl rfl rfl Hcall.out ?_)
        rintro e W7 O7 h1 h2 h3 hend
        rcases hend with ⟨rfl, hJ7⟩ | ⟨rfl, hJ7⟩
        · have HJ7 : Hid (Grow O6 O7 W6 W7 ∧ J ((wupto t i).length + (k + 1)) O7 W7) := ⟨⟨h1, h2, h3⟩, hJ7⟩
          clear h1 h2 h3 hJ7
          refine ⟨_, rfl, ?_⟩
          gi_wp2
          exact ⟨O7, HJ7.out.1, HJ7.out.2⟩
        · have HJ7 : Hid (Grow O6 O7 W6 W7 ∧ ∃ q, 1 ≤ q ∧ q ≤ (wupto t 1350).length ∧ Jx q O7 W7) := ⟨⟨h1, h2, h3⟩, _, by omega, Nat.succ_le_of_lt Hidx.out, hJ7⟩
          clear h1 h2 h3 hJ7
          refine ⟨_, rfl, ?_⟩
          gi_wp2
          exact ⟨O7, HJ7.out.1, rfl, HJ7.out.2⟩
      case done =>
        intro O9 w9 hG9 hJ9 hD hnD
        have hall : ∀ D ∈ w3.heap.size :: Ds, w9.heap[D]? = some (.deferred (some [])) ∧ ¬ O9 D ∧ W1.heap.size ≤ D := by
          intro E hE
          rcases List.mem_cons.mp hE with rfl | hE
          · exact ⟨hD, hnD, by omega⟩
          · obtain ⟨e1, e2, e3, e4⟩ := HDs.out E hE
            exact ⟨(hG9.eff.block E (by omega) e2).trans e1, hG9.not (by omega) e2, e3⟩
        have hnn : (w3.heap.size :: Ds).Nodup := List.nodup_cons.mpr ⟨fun h => by have := (HDs.out _ h).2.2.2; omega, Hnd.out⟩
        have hlen : (wupto t (i + 1)).length = (wupto t i).length + (sel (t i).testBit 64).length := by rw [wupto, List.length_append, wpart, List.length_map]
        have HE : Hid (J (wupto t (i + 1)).length O9 w9 ∧ Grow O O9 W1 w9 ∧ (∀ D ∈ w3.heap.size :: Ds, w9.heap[D]? = some (.deferred (some [])) ∧ ¬ O9 D ∧ W1.heap.size ≤ D) ∧ (w3.heap.size :: Ds).Nodup) :=
          ⟨by rw [hlen]; exact hJ9, HG12.out.trans ((Grow.of_below HB23.out).trans hG9), hall, hnn⟩
        clear hall hnn hlen hJ9 hG9
        gi_wp2
        exact ⟨⟨i + 1, _, _, _, _, _, _, _, _, _, _, _, _, _, _, _, _, _, _, w3.heap.size :: Ds, O9, by omega, rfl, HE.out⟩, by simp [intOf]; omega⟩
      case stop =>
        rintro c k O9 w9 hk1 hk2 hG9 ⟨rfl, q, hq1, hq2, hJ9⟩ hD hnD
        have hall : ∀ D ∈ w3.heap.size :: Ds, w9.heap[D]? = some (.deferred (some [])) ∧ ¬ O9 D ∧ W1.heap.size ≤ D := by
          intro E hE
          rcases List.mem_cons.mp hE with rfl | hE
          · exact ⟨hD, hnD, by omega⟩
          · obtain ⟨e1, e2, e3, e4⟩ := HDs.out E hE
            exact ⟨(hG9.eff.block E (by omega) e2).trans e1, hG9.not (by omega) e2, e3⟩
        have hnn : (w3.heap.size :: Ds).Nodup := List.nodup_cons.mpr ⟨fun h => by have := (HDs.out _ h).2.2.2; omega, Hnd.out⟩
        have hG := GG.out.trans hG9
        gi_wp2
        rw [Exit.noGoto_normal]
        refine leaves_marks (by simp) (w3.heap.size :: Ds) w9 hnn (fun D hD => (hall D hD).1) ?_
        intro w' e1 e2 e3 e4 e5
        exact ⟨_, results_none rfl _ _ _, ⟨_, rfl⟩, O9, hG.sub, hG.new, eff_marks hG.eff (fun D hD => by have := (hall D hD).2.2; omega) e1 e2 e3 e4 e5, .inr ⟨q, hq1, hq2, stab_marks HC.out.stabx hJ9 (fun D hD => (hall D hD).2.1) e4 e5⟩⟩
    · obtain rfl : i = 1350 := by omega
      obtain ⟨hJ2, hG2, hDs, hnd⟩ := HI.out
      have hG := (Grow.of_below (O := O) Q4.out).trans hG2
      have HH := hid (And.intro hJ2 (And.intro hG (And.intro hDs hnd)))
      clear hJ2 hG2 hDs hnd hG
      gi_wp2
      rw [Exit.noGoto_normal]
      obtain ⟨hJ2, hG, hDs, hnd⟩ := HH.out
      refine leaves_marks (by simp) Ds w2 hnd (fun D hD => (hDs D hD).1) ?_
      intro w' e1 e2 e3 e4 e5
      exact ⟨_, results_none rfl _ _ _, ⟨_, rfl⟩, O2, hG.sub, hG.new, eff_marks hG.eff (fun D hD => by have := (hDs D hD).2.2; omega) e1 e2 e3 e4 e5, .inl (stab_marks HC.out.stab hJ2 (fun D hD => (hDs D hD).2.1) e4 e5)⟩
end Go.Proofs.YtchceegpbfecaaaDoor

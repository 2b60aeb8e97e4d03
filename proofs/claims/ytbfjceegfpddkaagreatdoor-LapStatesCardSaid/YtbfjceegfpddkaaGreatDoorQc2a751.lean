/-
  lap.plain: the disc of all seconds of a state, whatever their phase.
-/
import Derived.Test.YtbfjceegfpddkaaGreatDoorQf90492
import Derived.Test.YtbfjceegfpddkaaGreatDoorQ393f76
namespace Go.Proofs.YtbfjceegfpddkaaGreatDoor
open Go.RowKit
set_option linter.unusedVariables false
attribute [local go_sem] Oper.semAt_some

/-- a disc in a block of its own, on the way of a telling of l -/
def LpI (bd : Nat) (p : Int → Bool) (l : List Int) : OwnP := fun k O W => (∀ b, O b ↔ b = bd) ∧ DiscAt W bd (memD ((l.take k).filter p))
theorem lpI_stab (bd : Nat) (p : Int → Bool) (l : List Int) : StabO (LpI bd p l) := fun k O W W' h hs hO => ⟨h.1, h.2.block hs (hO bd ((h.1 bd).mpr rfl))⟩
theorem lpI_lt (bd : Nat) (p : Int → Bool) (l : List Int) : LtO (LpI bd p l) := fun k O W h b hb => by rw [(h.1 b).mp hb]; exact h.2.lt
theorem DiscAt.more {W W' : World} {bd : Nat} {p : Int → Bool} {l : List Int} {k : Nat} {x : Int} (hx : l[k]? = some x) (hp : p x = true) (h : DiscAt W' bd (fun j => memD ((l.take k).filter p) j || decide ((j : Int) = x))) :
    DiscAt W' bd (memD ((l.take (k + 1)).filter p)) := by
  obtain ⟨hk, rfl⟩ := List.getElem?_eq_some_iff.1 hx
  refine h.congr fun j hj => ?_
  rw [take_snoc l k hk, List.filter_append, memD, memD, Bool.eq_iff_iff, Bool.or_eq_true, decide_eq_true_eq, decide_eq_true_eq, decide_eq_true_eq, List.mem_append]
  simp [hp]
theorem DiscAt.same {W : World} {bd : Nat} {p : Int → Bool} {l : List Int} {k : Nat} {x : Int} (hx : l[k]? = some x) (hp : p x = false) (h : DiscAt W bd (memD ((l.take k).filter p))) :
    DiscAt W bd (memD ((l.take (k + 1)).filter p)) := by
  obtain ⟨hk, rfl⟩ := List.getElem?_eq_some_iff.1 hx
  have e : (l.take (k + 1)).filter p = (l.take k).filter p := by rw [take_snoc l k hk, List.filter_append]; simp [hp]
  rw [e]; exact h
/-- of a rising list none is between, behind one that is above -/
theorem filter_cut {l : List Int} {f u : Int} {k : Nat} {x : Int} (hr : l.Pairwise (· < ·)) (hx : l[k]? = some x) (hu : u < x) : (l.take k).filter (betB f u) = l.filter (betB f u) := by
  obtain ⟨hk, rfl⟩ := List.getElem?_eq_some_iff.1 hx
  have e : l.filter (betB f u) = (l.take k).filter (betB f u) ++ (l.drop k).filter (betB f u) := by rw [← List.filter_append, List.take_append_drop]
  have e2 : (l.drop k).filter (betB f u) = [] := by
    rw [List.filter_eq_nil_iff]
    intro y hy
    rw [List.drop_eq_getElem_cons hk] at hy
    have hge : l[k] ≤ y := by
      rcases List.mem_cons.1 hy with h | h
      · omega
      · have hp : (l[k] :: l.drop (k + 1)).Pairwise (· < ·) := by rw [← List.drop_eq_getElem_cons hk]; exact hr.sublist (List.drop_sublist _ _)
        have := (List.pairwise_cons.1 hp).1 y h
        omega
    rw [betB]; simp; omega
  rw [e, e2, List.append_nil]
/-- what plain makes -/
def plainQ (c : Cl) (f u : Int) (k : Nat) : Bool := todIn k (c.m 2) (c.m 1) (c.m 0) && betB f u k
theorem plain_mem (c : Cl) (f u : Int) (hc : c.Ok) (k : Nat) (hk : k < 86400) : memD ((secsOf (c.m 2) (c.m 1) (c.m 0)).filter (betB f u)) k = plainQ c f u k := by
  rw [memD, plainQ, Bool.eq_iff_iff, decide_eq_true_eq, List.mem_filter, Bool.and_eq_true, secsOf_mem (hc.m 2 (by omega)) (hc.m 1 (by omega)) (hc.m 0 (by omega)) (by omega) (by omega)]
set_option maxRecDepth 100000 in
set_option maxHeartbeats 3200000 in
theorem LPlain_any (c : Cl) (a : Bool) (f u p : Int) (w : World) (hc : c.Ok) (hT : Tab w) :
    Calls Tryz.prog 85 #[clv c, stv a f u p] w fun e w' => ∃ b, e = .returned (.pointer (some ⟨b, 0, none⟩)) ∧ w.heap.size ≤ b ∧ DiscAt w' b (plainQ c f u) ∧ Below w.heap.size w w' := by
  have c1 := hid (fun W => DOf_any none 0 [] W (by simp) (Sl.nil _ _))
  have c2 := hid (fun W => TAll_any (c.m 2) (c.m 1) (c.m 0) W (hc.m 2 (by omega)) (hc.m 1 (by omega)) (hc.m 0 (by omega)))
  have cP := hid (fun b q s W h => DPut1_any b q s W h)
  have tells := hid (fun bh bm bs Ow w => tod_tells2 (c.m 2) (c.m 1) (c.m 0) bh bm bs Ow w (hc.m 2 (by omega)) (hc.m 1 (by omega)) (hc.m 0 (by omega)))
  have hfin := hid (plain_mem c f u hc)
  have hris := hid (secsOf_rising (c.m 2) (c.m 1) (c.m 0))
  obtain ⟨L, hL⟩ : ∃ L, secsOf (c.m 2) (c.m 1) (c.m 0) = L := ⟨_, rfl⟩
  rw [hL] at tells hfin hris
  have HT := hid hT
  obtain ⟨W1, hW1⟩ : ∃ W1, (w.alloc (.cells (clList c).toArray 28)).alloc (.cells #[.bool a, .int .i64 f, .int .i64 u, .int .i64 p] 36) = W1 := ⟨_, rfl⟩
  have q1 : W1.heap.size = w.heap.size + 2 := by rw [← hW1]; simp
  have q2 : Below w.heap.size w W1 := by rw [← hW1]; exact below_new (below_new (Below.refl _ _) (Nat.le_refl _)) (by simp)
  have q3 : ClB W1 w.heap.size c := by rw [← hW1]; exact clB_new2 w c _ _
  have q4 : Four W1 (w.heap.size + 1) (.bool a) (.int .i64 f) (.int .i64 u) (.int .i64 p) := by
    rw [← hW1]
    have h := four_new (w.alloc (.cells (clList c).toArray 28)) (.bool a) (.int .i64 f) (.int .i64 u) (.int .i64 p) 36
    rw [World.size_alloc] at h
    exact h
  have HW1 := hid hW1
  have Q2 := hid q2
  have Q3 := hid q3
  have Q4 := hid q4
  clear hW1 q2 q3 q4 hL hT hc
  refine (wf_calls (r := none) (n := 1)).mp ?_
  refine callsIn_of_wp_marks Tryz.func85 rfl trivial ?_ rfl
  simp only [Tryz.ntmps85, List.size_toArray, List.length_cons, List.length_nil, Nat.reduceAdd, Nat.reduceSub, Array.replicate_succ, Array.replicate_zero, List.push_toArray, List.append_toArray, List.nil_append, List.cons_append]
  gi_wp2_with fail
  refine wpIn_scope ?_
  rw [HW1.out]
  gi_wp2_with fail
  refine (wf_calls.mpr (c1.out W1)).mono ?_
  rintro e w2 ⟨rfl, hD, hB2⟩
  rw [q1]
  obtain ⟨W3, hW3⟩ : ∃ W, w2.alloc (.cells #[.pointer (some ⟨w.heap.size + 2, 0, none⟩)] 47) = W := ⟨_, rfl⟩
  have s2 : w.heap.size + 2 < w2.heap.size := by rw [q1] at hD; exact hD.lt
  have b3 : Below w2.heap.size w2 W3 := by rw [← hW3]; exact below_new (Below.refl _ _) (Nat.le_refl _)
  have s3 : W3.heap.size = w2.heap.size + 1 := by rw [← hW3]; simp
  have B13 : Below W1.heap.size W1 W3 := hB2.trans (b3.mono hB2.size)
  have HB3 : Hid (Below w.heap.size w W3) := Q2.out.trans (B13.mono Q2.out.size)
  have HD3 : Hid (DiscAt W3 (w.heap.size + 2) (memD [])) := by rw [q1] at hD; exact hD.below b3 s2
  have C3 := hid (Q3.out.below B13 (by omega))
  have F3 := hid (Q4.out.below B13 (by omega))
  have e5 := hid (show W3.cell? ⟨w2.heap.size, 0, none⟩ = some (.pointer (some ⟨w.heap.size + 2, 0, none⟩)) by rw [← hW3]; simp [go_sem])
  have m := C3.out.masks
  rw [← hW3] at m
  obtain ⟨m0, m1, m2, -⟩ := m
  have HW3 := hid hW3
  clear hW3 hD hB2 b3 B13
  gi_wp2_with fail
  refine wpIn_label ?_
  gi_wp2_with fail
  rw [HW3.out]
  clear m0 m1 m2
  refine (wf_calls.mpr (c2.out W3)).mono ?_
  rintro e w4 ⟨rfl, k1, k2, k3, hB4, s4⟩
  have HB4 : Hid (Below w.heap.size w w4) := HB3.out.trans (hB4.mono HB3.out.size)
  have I4 : Hid (LpI (w.heap.size + 2) (betB f u) L 0 (fun b => b = w.heap.size + 2) w4) := ⟨fun b => Iff.rfl, HD3.out.below hB4 (by omega)⟩
  have F4 := hid (F3.out.below hB4 (by omega))
  have e54 := hid ((hB4.cell (p := ⟨w2.heap.size, 0, none⟩) (by simp only []; omega)).trans e5.out)
  rw [s3] at k1 k2 k3
  have tl := hid (tells.out (w2.heap.size + 1) (w2.heap.size + 1 + 1) (w2.heap.size + 1 + 2) (fun b => b = w.heap.size + 2) w4 (by omega) (by omega) (by omega) (by omega) (by omega) (by omega) k1 k2 k3 (HT.out.later HB4.out) (by have := HT.out.1; show ¬ 0 = _; omega))
  clear k1 k2 k3 hB4
  gi_wp2_with fail
  have lw4 : w2.heap.size < w4.heap.size := by omega
  have lw5 : w.heap.size + 1 < w4.heap.size := by omega
  refine range_outer2 (gf := 156) (lb := #[.pointer (some ⟨w2.heap.size + 1, 0, none⟩), .pointer (some ⟨w2.heap.size + 1 + 1, 0, none⟩), .pointer (some ⟨w2.heap.size + 1 + 2, 0, none⟩)]) rfl tod_enters L _ rfl tl.out
    (LpI (w.heap.size + 2) (betB f u) L) (fun c k O W => c = .exit 0 ∧ (∀ b, O b ↔ b = w.heap.size + 2) ∧ DiscAt W (w.heap.size + 2) (memD (L.filter (betB f u)))) (lpI_stab _ _ _)
    (fun c k O W W' h hs hO => ⟨h.1, h.2.1, h.2.2.block hs (hO _ ((h.2.1 _).mpr rfl))⟩) (lpI_lt _ _ _) (fun c k O W h b hb => by rw [(h.2.1 b).mp hb]; exact h.2.2.lt) I4.out
    (fun k O a' W => LpI (w.heap.size + 2) (betB f u) L k O W ∧ ∃ x, L[k]? = some x ∧ ∃ (u7 u8 u9 u10 u11 u12 u13 u14 u15 u16 u17 u18 u19 u20 u21 u22 u23 u24 u25 u26 u27 u28 u29 u30 : Value), a' = { tmps := #[clv c, stv a f u p, .pointer (some ⟨w.heap.size, 0, none⟩), .pointer (some ⟨w.heap.size + 1, 0, none⟩), .pointer none, .pointer (some ⟨w2.heap.size, 0, none⟩), .int .i64 x, u7, u8, u9, u10, u11, u12, u13, u14, u15, u16, u17, u18, u19, u20, u21, u22, u23, u24, u25, u26, u27, u28, u29, u30], defers := [] })
    (fun l o k O a' W' hr hn h => ⟨stab_put (lpI_stab _ _ _) h.1 hn o, h.2⟩) ?assign ?body ?done ?stop
  case assign =>
    intro l k O6 W6 K hk hI hG6 hK
    gi_wp2
    exact hK _ O6 _ (Grow.refl _ _) ⟨hI, _, List.getElem?_eq_getElem hk, _, _, _, _, _, _, _, _, _, _, _, _, _, _, _, _, _, _, _, _, _, _, _, _, rfl⟩
  case stop =>
    rintro c' k O9 w9 hk1 hk2 hG9 ⟨rfl, hO9, hd9⟩ hD hnD
    have HG9 := hid hG9
    have Hd9 := hid hd9
    have e59 := (hG9.cell lw4 (by omega) 0).trans e54.out
    have HD := hid hD
    clear hG9 hd9 hD
    gi_wp2
    rw [Exit.noGoto_ret]
    refine ⟨by simp, .inl ⟨_, _, rfl, run_takeDeferred HD.out, ?_⟩⟩
    exact ⟨_, results_tmp rfl _ _ _, _, rfl, by omega, (Hd9.out.congr hfin.out).block (by rw [World.putObj_size]; exact Nat.le_refl _) (World.putObj_heap_other (by omega)), below_putObj (HB4.out.trans (HG9.out.eff.below (by rintro b rfl; omega) HB4.out.size)) HB4.out.size _⟩
  case done =>
    rintro O9 w9 hG9 ⟨hO9, hd9⟩ hD hnD
    rw [List.take_length] at hd9
    have HG9 := hid hG9
    have Hd9 := hid hd9
    have e59 := (hG9.cell lw4 (by omega) 0).trans e54.out
    have HD := hid hD
    clear hG9 hd9 hD
    gi_wp2
    rw [Exit.noGoto_ret]
    refine ⟨by simp, .inl ⟨_, _, rfl, run_takeDeferred HD.out, ?_⟩⟩
    exact ⟨_, results_tmp rfl _ _ _, _, rfl, by omega, (Hd9.out.congr hfin.out).block (by rw [World.putObj_size]; exact Nat.le_refl _) (World.putObj_heap_other (by omega)), below_putObj (HB4.out.trans (HG9.out.eff.below (by rintro b rfl; omega) HB4.out.size)) HB4.out.size _⟩
  case body =>
    rintro l k O6 a' W6 hk hG6 hl6 hrec6 hnl6 ⟨⟨hO6, hd6⟩, x, ex, u7, u8, u9, u10, u11, u12, u13, u14, u15, u16, u17, u18, u19, u20, u21, u22, u23, u24, u25, u26, u27, u28, u29, u30, rfl⟩
    have e56 := (hG6.cell lw4 (by omega) 0).trans e54.out
    obtain ⟨⟨-, f1, f2, -⟩, -⟩ := F4.out
    have g1 := (hG6.cell lw5 (by omega) 1).trans f1
    have g2 := (hG6.cell lw5 (by omega) 2).trans f2
    have Hd6 := hid hd6
    have HO6 := hid hO6
    have Hex := hid ex
    clear f1 f2 hd6 hO6 ex hG6
    by_cases h1 : x < f
    · have hp : Hid (betB f u x = false) := by show _ = _; rw [betB, decide_eq_false (by omega)]; rfl
      gi_wp2
      exact ⟨O6, Grow.refl _ _, HO6.out, Hd6.out.same Hex.out hp.out⟩
    · by_cases h2 : u < x
      · have hcut : Hid ((L.take k).filter (betB f u) = L.filter (betB f u)) := filter_cut hris.out Hex.out h2
        gi_wp2
        exact ⟨O6, Grow.refl _ _, rfl, HO6.out, by rw [← hcut.out]; exact Hd6.out⟩
      · have hp : Hid (betB f u x = true) := by show _ = _; rw [betB, decide_eq_true (by omega), decide_eq_true (by omega)]; rfl
        gi_wp2_with fail
        refine (wf_calls.mpr (cP.out _ _ x _ Hd6.out)).mono ?_
        rintro e w7 ⟨⟨v, rfl⟩, hd7, hE7⟩
        have Hd7 := hid hd7
        have HE7 := hid hE7
        clear hd7 hE7
        gi_wp2
        exact ⟨O6, ⟨fun _ h => h, fun _ h => .inl h, HE7.out.wide fun b hb => (HO6.out b).mpr hb⟩, HO6.out, DiscAt.more (W := W6) Hex.out hp.out Hd7.out⟩
end Go.Proofs.YtbfjceegfpddkaaGreatDoor

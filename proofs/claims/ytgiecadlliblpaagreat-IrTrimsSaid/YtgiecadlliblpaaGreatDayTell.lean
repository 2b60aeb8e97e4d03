/-
  The function that day.All makes tells the days of a set, each with its active clauses.
  day.Active, day.Count, day.Last.
  day.Next: the first day that is told.
  The chapter's example: the 29th of February has 97 days (ferialaw14.lives).
-/
import Derived.Test.YtgiecadlliblpaaGreatDaySet
import Derived.Test.YtgiecadlliblpaaGreatTodIter
import Derived.Deep.RegionHeld3
namespace Go.Proofs.YtgiecadlliblpaaGreat
open Go.RowKit
set_option linter.unusedVariables false
attribute [local go_sem] Oper.semAt_some

/-- what is told of each day -/
def dyTell (cs : List Cl) (l : List Int) : List (Array Value) := l.map fun n => #[shN n, .int .u64 (actM cs n : Nat)]
theorem dyTell_len (cs : List Cl) (l : List Int) : (dyTell cs l).length = l.length := by simp [dyTell]
theorem ShS.put {W : World} {b l : Nat} {s : Nat → Int} {o : Obj} (h : ShS W b s) (hr : ∃ r, W.heap[l]? = some (.loop r)) : ShS (W.putObj l o) b s := by
  obtain ⟨h0, h1, h2, h3, h4, h5, h6, h7, h8, h9⟩ := h
  exact ⟨putObj_cell hr h0, putObj_cell hr h1, putObj_cell hr h2, putObj_cell hr h3, putObj_cell hr h4, putObj_cell hr h5, putObj_cell hr h6, putObj_cell hr h7, putObj_cell hr h8, putObj_cell hr h9⟩
/-- how many of the first k days have an active clause -/
def cntD (cs : List Cl) (l : List Int) (k : Nat) : Nat := (l.take k).countP (actB cs)
theorem cntD_at {cs : List Cl} {l m : List Int} {k : Nat} {n : Int} (hm : l.filter (actB cs) = m) (hk : l[k]? = some n) (h : actB cs n = true) :
    ∃ hi : cntD cs l k < (dyTell cs m).length, (dyTell cs m)[cntD cs l k] = #[shN n, .int .u64 (actM cs n : Nat)] := by
  obtain ⟨hk1, rfl⟩ := List.getElem?_eq_some_iff.1 hk
  have h1 := filter_idx (actB cs) l k hk1 h
  rw [hm] at h1
  obtain ⟨h2, h3⟩ := List.getElem?_eq_some_iff.1 h1
  refine ⟨by rw [dyTell_len]; exact h2, ?_⟩
  have h4 : m[cntD cs l k]'h2 = l[k] := h3
  simp only [dyTell, List.getElem_map]
  exact congrArg (fun n => #[shN n, Value.int .u64 (actM cs n : Nat)]) h4
theorem cntD_snoc {cs : List Cl} {l : List Int} {k : Nat} {n : Int} (hk : l[k]? = some n) : cntD cs l (k + 1) = cntD cs l k + if actB cs n then 1 else 0 := by
  obtain ⟨hk1, rfl⟩ := List.getElem?_eq_some_iff.1 hk
  exact count_snoc (actB cs) l k hk1
theorem cntD_all {cs : List Cl} {l m : List Int} (hm : l.filter (actB cs) = m) : cntD cs l l.length = m.length := by
  rw [cntD, List.take_length, ← hm, filter_len]
set_option maxRecDepth 100000 in
set_option maxHeartbeats 6400000 in
theorem DayIter_any (cs : List Cl) (f t : Int) (lo hi b1 b2 b3 b4 b5 : Nat) (y : Value) (J Jx : OwnP) (O : Nat → Prop) (W : World) (hf0 : 0 ≤ f) (hf1 : f ≤ 146097) (ht0 : -1 ≤ t) (ht1 : t ≤ 146096)
    (hC : ClientV Tryz.prog y (dyTell cs (daysT cs f t)) J Jx O W) (hJ : J 0 O W) (hD : DayS W cs f t lo hi b1 b2 b3 b4 b5) (hn : ∀ b, lo ≤ b → b < hi → ¬ O b) :
    Calls Tryz.prog 79 #[y, .pointer (some ⟨b1, 0, none⟩), .pointer (some ⟨b2, 0, none⟩), .pointer (some ⟨b3, 0, none⟩), .pointer (some ⟨b4, 0, none⟩), .pointer (some ⟨b5, 0, none⟩)] W fun e W' => (∃ v, e = .returned v) ∧ ToldV (dyTell cs (daysT cs f t)) J Jx O W W' := by
  obtain ⟨yf, yi, yc, rfl⟩ := hC.form
  have hclip := daysT_clip cs f t
  have hlo := loB_bd cs (liveI cs (min cs.length 64))
  have hhi := hiB_bd cs (liveI cs (min cs.length 64))
  obtain ⟨F, hF⟩ : ∃ F, max f (loC cs) = F := ⟨_, rfl⟩
  obtain ⟨T, hT⟩ : ∃ T, min t (hiC cs) = T := ⟨_, rfl⟩
  rw [hF, hT] at hclip
  obtain ⟨W1, hW1⟩ : ∃ W1, W.alloc (.cells #[.func yf yi yc] 116) = W1 := ⟨_, rfl⟩
  have q3 : W1.heap.size = W.heap.size + 1 := by rw [← hW1]; simp
  have q4 : Below W.heap.size W W1 := by rw [← hW1]; exact below_new (Below.refl _ _) (Nat.le_refl _)
  have q5 : W1.cell? ⟨W.heap.size, 0, none⟩ = some (.func yf yi yc) := by rw [← hW1]; simp [go_sem]
  have hD1 := hD.below q4
  have oo := hD1.o.2.2.2.2
  obtain ⟨a, cap, l, k5, hL⟩ := hD1.c5
  obtain ⟨k1, k2, k3, k4⟩ : W1.cell? ⟨b1, 0, none⟩ = some (.int .i64 f) ∧ W1.cell? ⟨b2, 0, none⟩ = some (.int .i64 (loC cs)) ∧ W1.cell? ⟨b3, 0, none⟩ = some (.int .i64 t) ∧ W1.cell? ⟨b4, 0, none⟩ = some (.int .i64 (hiC cs)) := ⟨hD1.c1, hD1.c2, hD1.c3, hD1.c4⟩
  obtain ⟨lc, hlc⟩ : ∃ x, loC cs = x := ⟨_, rfl⟩
  obtain ⟨hc, hhc⟩ : ∃ x, hiC cs = x := ⟨_, rfl⟩
  rw [hlc] at k2 hF
  rw [hhc] at k4 hT
  have hF' : (f < lc ∧ lc ≤ F ∧ F ≤ lc) ∨ (lc ≤ f ∧ f ≤ F ∧ F ≤ f) := by omega
  have hT' : (t ≤ hc ∧ t ≤ T ∧ T ≤ t) ∨ (hc < t ∧ hc ≤ T ∧ T ≤ hc) := by omega
  have F0 : 0 ≤ F := by omega
  have F1 : F ≤ 146097 := by have : loC cs ≤ 146097 := hlo.2; omega
  have T0 : -1 ≤ T := by have : -1 ≤ hiC cs := hhi.1; omega
  have T1 : T ≤ 146096 := by omega
  obtain ⟨DT, hDT⟩ : ∃ l, daysT cs f t = l := ⟨_, rfl⟩
  rw [hDT] at hclip hC ⊢
  have Hclip := hid hclip
  have HC := hid hC
  have HW1 := hid hW1
  have ey := hid q5
  have Q4 := hid q4
  have q3' := hid q3
  have HJ1 : Hid (J 0 O W1) := stab_below hC.stab hC.lt hJ q4
  have Hlt := hid (hC.lt 0 O W hJ)
  have HL := hid hL
  have HN := hid hn
  have K5 := hid k5
  have HO5 := hid oo
  have Hle := hid hD.le
  have hle1 : hi ≤ W1.heap.size := hD1.le
  clear hC hJ hD hn hclip hlo hhi hF hT hW1 hlc hhc hDT q3 q4 q5 hD1 oo k5 hL
  refine (wf_calls (r := none) (n := 1)).mp ?_
  rcases hF' with ⟨h1, h2, h3⟩ | ⟨h1, h2, h3⟩ <;> rcases hT' with ⟨g1, g2, g3⟩ | ⟨g1, g2, g3⟩
  all_goals
    refine callsIn_of_wp_marks Tryz.func79 rfl trivial ?_ rfl
    simp only [Tryz.ntmps79, List.size_toArray, List.length_cons, List.length_nil, Nat.reduceAdd, Nat.reduceSub, Array.replicate_succ, Array.replicate_zero, List.push_toArray, List.append_toArray, List.nil_append, List.cons_append]
    gi_wp2_with fail
    refine wpIn_scope ?_
    rw [HW1.out]
    gi_wp2_with fail
    refine wpIn_label ?_
    gi_wp2_with fail
    refine (wf_calls.mpr (WDays_any _ _ _)).mono ?_
    rintro e w2 ⟨rfl, hk1, hk2, hB2, hs2⟩
    have hk1' := hk1.trans (some_int (b := F) (by omega))
    have hk2' := hk2.trans (some_int (b := T) (by omega))
    have hltO : ∀ b, O b → b < W.heap.size := Hlt.out
    have sW1 := q3'.out
    have s12 := hB2.size
    have HJ2 : Hid (J 0 O w2) := stab_below HC.out.stab HC.out.lt HJ1.out hB2
    have tl := hid (week_tells F T W1.heap.size (W1.heap.size + 1) O w2 F0 F1 T1 T0 (by omega) hs2 (fun h => by have := hltO _ h; omega) (fun h => by have := hltO _ h; omega) hk1' hk2')
    have hB02 : Below W.heap.size W w2 := Q4.out.trans (hB2.mono (by omega))
    have HG2 : Hid (Grow O O W w2) := Grow.of_below hB02
    have ey2 := hid ((hB2.cell (p := ⟨W.heap.size, 0, none⟩) (by simp only []; omega)).trans ey.out)
    have k52 := hid ((hB2.cell (p := ⟨b5, 0, none⟩) (by have := HO5.out; simp only []; omega)).trans K5.out)
    have HL2 := hid (HL.out.below hB2)
    have nOy : Hid (¬ O W.heap.size) := fun h => by have := hltO _ h; omega
    have szW : W.heap.size < w2.heap.size := by omega
    have hib5 : b5 < hi ∧ lo ≤ b5 := by have := HO5.out; omega
    have hle2 : hi ≤ w2.heap.size := by omega
    clear hk1 hk2 hk1' hk2' hB2 hB02 hltO sW1
    gi_wp2_with fail
    refine range_outerV (gf := 101) (lb := #[.pointer (some ⟨W1.heap.size, 0, none⟩), .pointer (some ⟨W1.heap.size + 1, 0, none⟩)]) rfl week_enters (shTell (daysL F T)) O (fun x hx => by simp only [shTell, List.mem_map] at hx; obtain ⟨_, _, rfl⟩ := hx; rfl) tl.out
      (fun k O W => J (cntD cs (daysL F T) k) O W) (fun c k O W => c = .exit 0 ∧ ∃ q, 1 ≤ q ∧ q ≤ (dyTell cs DT).length ∧ Jx q O W)
      (fun k O W W' h hs hO => HC.out.stab _ O W W' h hs hO) (fun c k O W W' h hs hO => ⟨h.1, by obtain ⟨q, h1, h2, h3⟩ := h.2; exact ⟨q, h1, h2, HC.out.stabx _ O W W' h3 hs hO⟩⟩)
      (fun k O W h => HC.out.lt _ O W h) (fun c k O W h => by obtain ⟨_, q, h1, h2, h3⟩ := h; exact HC.out.ltx _ O W h3) (by simpa [cntD] using HJ2.out)
      (fun k O a' W' => J (cntD cs (daysL F T) k) O W' ∧ ∃ bx n, (daysL F T)[k]? = some n ∧ bx < W'.heap.size ∧ ¬ O bx ∧ ShS W' bx (shF n) ∧ ∃ (u8 u9 u10 u11 u12 u13 u14 u15 u16 u17 u18 u19 u20 u21 u22 u23 u24 u25 u26 : Value), a' = { tmps := #[.func yf yi yc, .pointer (some ⟨b1, 0, none⟩), .pointer (some ⟨b2, 0, none⟩), .pointer (some ⟨b3, 0, none⟩), .pointer (some ⟨b4, 0, none⟩), .pointer (some ⟨b5, 0, none⟩), .pointer (some ⟨W.heap.size, 0, none⟩), .pointer (some ⟨bx, 0, none⟩), u8, u9, u10, u11, u12, u13, u14, u15, u16, u17, u18, u19, u20, u21, u22, u23, u24, u25, u26], defers := [] })
      (fun l o k O a' W' hr hn h => ⟨stab_put HC.out.stab h.1 hn o, by obtain ⟨bx, n, h1, h2, h3, h4, h5⟩ := h.2; exact ⟨bx, n, h1, by rw [World.putObj_size]; exact h2, h3, h4.put hr, h5⟩⟩) ?assign ?body ?done ?stop
    case assign =>
      intro l' k O6 W6 K hk hJ6 hG6 hK
      have hk2 : k < (daysL F T).length := by rw [shTell_len] at hk; exact hk
      have hx := shTell_get hk
      obtain ⟨n, hn⟩ : ∃ n, (daysL F T)[k] = n := ⟨_, rfl⟩
      have Hn' : Hid ((daysL F T)[k]? = some n) := by show _ = _; rw [List.getElem?_eq_getElem hk2, hn]
      rw [hn, ← shq_shF] at hx
      rw [hx]
      obtain ⟨s, hs⟩ : ∃ s, shF n = s := ⟨_, rfl⟩
      rw [hs, shq]
      have Hs := hid hs
      have hlt6 := HC.out.lt _ _ _ hJ6
      have Hn6 : Hid (¬ O6 W6.heap.size) := fun h => by have := hlt6 _ h; omega
      have HJ6 := hid hJ6
      clear hx hn hs hlt6 hk2 hJ6 hG6
      gi_wp2
      have hbel := below_new (o := .cells (shList s).toArray 53) (Below.refl W6.heap.size W6) (Nat.le_refl _)
      exact hK _ O6 _ (Grow.of_below hbel) ⟨stab_below HC.out.stab HC.out.lt HJ6.out hbel, W6.heap.size, n, Hn'.out, by simp, Hn6.out, by rw [Hs.out]; exact shC_new W6 53 _ _ _ _ _ _ _ _ _ _, _, _, _, _, _, _, _, _, _, _, _, _, _, _, _, _, _, _, _, rfl⟩
    case done =>
      intro O9 w9 hG9 hJ9 hD hnD
      have hG := HG2.out.trans hG9
      rw [shTell_len, cntD_all Hclip.out, ← dyTell_len cs DT] at hJ9
      have HJ9 := hid hJ9
      have HG9 := hid hG
      have HD9 := hid hD
      clear hJ9 hG hG9 hD
      gi_wp2
      rw [Exit.noGoto_normal]
      refine ⟨by simp, .inl ⟨_, _, rfl, run_takeDeferred HD9.out, ?_⟩⟩
      exact ⟨_, results_none rfl _ _ _, ⟨_, rfl⟩, O9, HG9.out.sub, HG9.out.new, HG9.out.eff.putObj (.inr (by omega)) _, .inl (stab_put HC.out.stab HJ9.out hnD _)⟩
    case stop =>
      rintro c k O9 w9 hk1 hk2 hG9 ⟨rfl, q, hq1, hq2, hJ9⟩ hD hnD
      have HJ9 := hid hJ9
      have HG9 := hid (HG2.out.trans hG9)
      have HD9 := hid hD
      clear hJ9 hG9 hD
      gi_wp2
      rw [Exit.noGoto_normal]
      refine ⟨by simp, .inl ⟨_, _, rfl, run_takeDeferred HD9.out, ?_⟩⟩
      exact ⟨_, results_none rfl _ _ _, ⟨_, rfl⟩, O9, HG9.out.sub, HG9.out.new, HG9.out.eff.putObj (.inr (by omega)) _, .inr ⟨q, hq1, hq2, stab_put HC.out.stabx HJ9.out hnD _⟩⟩
    case body =>
      rintro l3 k O6 a' W6 hk hG6 hl3 hrec6 hnl3 ⟨hJ6, bx, n, en, lx, nx, hsh, u8, u9, u10, u11, u12, u13, u14, u15, u16, u17, u18, u19, u20, u21, u22, u23, u24, u25, u26, rfl⟩
      have hmem := daysL_mem.1 (List.mem_of_getElem? en)
      have n0 : 0 ≤ n := by omega
      have n1 : n < 146097 := by omega
      have ey6 := (hG6.cell (b := W.heap.size) szW nOy.out 0).trans ey2.out
      have k56 := (hG6.cell (b := b5) (by omega) (HN.out b5 hib5.2 hib5.1) 0).trans k52.out
      have hL6 : LivS W6 cs lo hi a l := HL2.out.keep (Nat.le_trans hle2 hG6.eff.size) (fun b h1 h2 => hG6.eff.block b (by omega) (HN.out b h1 h2))
      have cA := Active_any a cap cs lo hi l n W6 hL6 n0 n1
      have hst := fun w7 (hB7 : Below W6.heap.size W6 w7) => stab_below HC.out.stab HC.out.lt hJ6 hB7
      have Hst := hid hst
      have GG : Hid (Grow O O6 W W6) := HG2.out.trans hG6
      have hsn := cntD_snoc (cs := cs) en
      have hat := fun h => cntD_at (cs := cs) Hclip.out en h
      have eB : actB cs n = decide (actM cs n ≠ 0) := rfl
      rw [eB] at hsn hat
      rw [← shq_shF] at cA hat
      obtain ⟨s, hs⟩ : ∃ s, shF n = s := ⟨_, rfl⟩
      rw [hs] at cA hat hsh
      rw [shq] at cA hat
      obtain ⟨s0, s1, s2, s3, s4, s5, s6, s7, s8, s9⟩ := hsh
      have Sh6 : Hid (ShS W6 bx s) := ⟨s0, s1, s2, s3, s4, s5, s6, s7, s8, s9⟩
      have hM := actM_lt cs n
      obtain ⟨M, hMe⟩ : ∃ M, actM cs n = M := ⟨_, rfl⟩
      rw [hMe] at cA hsn hat hM
      have CA := hid cA
      have Hsn := hid hsn
      have Hat := hid hat
      have sz6 := hG6.eff.size
      clear cA hsn hat hMe hs eB hL6 hst hJ6 hG6 en hmem
      gi_wp2_with fail
      refine (wf_calls.mpr CA.out).mono ?_
      rintro e w7 ⟨rfl, hB7⟩
      have HJ7 := hid (Hst.out w7 hB7)
      have HG7 : Hid (Grow O6 O6 W6 w7) := Grow.of_below hB7
      by_cases hz : M = 0
      · have cb : ((M : Int) == 0) = true := by rw [hz]; rfl
        have Hz := hid hz
        clear hz hB7
        gi_wp2
        refine ⟨O6, HG7.out, ?_⟩
        show J (cntD cs (daysL F T) (k + 1)) O6 w7
        rw [Hsn.out, Hz.out]
        exact HJ7.out
      · have cb : ((M : Int) == 0) = false := by simpa using hz
        obtain ⟨hidx, hval⟩ := Hat.out (by simpa using hz)
        have hcall := HC.out.call _ O6 w7 hidx HJ7.out (GG.out.trans HG7.out)
        rw [hval] at hcall
        have Hcall := hid hcall
        have Hidx := hid hidx
        have Hsn2 : Hid (cntD cs (daysL F T) (k + 1) = cntD cs (daysL F T) k + 1) := by show _ = _; rw [Hsn.out, if_pos (by simpa using hz)]
        have ey7 := (hB7.cell (p := ⟨W.heap.size, 0, none⟩) (by simp only []; omega)).trans ey6
        obtain ⟨r0, r1, r2, r3, r4, r5, r6, r7, r8, r9⟩ := Sh6.out.below hB7 lx
        clear hcall hidx hval hz hB7 s0 s1 s2 s3 s4 s5 s6 s7 s8 s9 ey6 k56
        gi_wp2_with (refine callv2 (.tmp 22) (.tmp 23) (.tmp 24) _ _ rfl rfl rfl rfl rfl Hcall.out ?_)
        rintro e W8 O8 x1 x2 x3 hend
        rcases hend with ⟨rfl, hJ8⟩ | ⟨rfl, hJ8⟩
        · have HJ8 : Hid (Grow O6 O8 W6 W8 ∧ J (cntD cs (daysL F T) (k + 1)) O8 W8) := ⟨HG7.out.trans ⟨x1, x2, x3⟩, by rw [Hsn2.out]; exact hJ8⟩
          clear x1 x2 x3 hJ8
          refine ⟨_, rfl, ?_⟩
          gi_wp2
          exact ⟨O8, HJ8.out.1, HJ8.out.2⟩
        · have HJ8 : Hid (Grow O6 O8 W6 W8 ∧ ∃ q, 1 ≤ q ∧ q ≤ (dyTell cs DT).length ∧ Jx q O8 W8) := ⟨HG7.out.trans ⟨x1, x2, x3⟩, _, by omega, Nat.succ_le_of_lt Hidx.out, hJ8⟩
          clear x1 x2 x3 hJ8
          refine ⟨_, rfl, ?_⟩
          gi_wp2
          exact ⟨O8, HJ8.out.1, rfl, HJ8.out.2⟩
theorem day_tells (cs : List Cl) (f t : Int) (lo hi b1 b2 b3 b4 b5 : Nat) (Ow : Nat → Prop) (w : World) (hf0 : 0 ≤ f) (hf1 : f ≤ 146097) (ht0 : -1 ≤ t) (ht1 : t ≤ 146096)
    (hD : DayS w cs f t lo hi b1 b2 b3 b4 b5) (hn : ∀ b, lo ≤ b → b < hi → ¬ Ow b) :
    TellsV Tryz.prog 79 #[.pointer (some ⟨b1, 0, none⟩), .pointer (some ⟨b2, 0, none⟩), .pointer (some ⟨b3, 0, none⟩), .pointer (some ⟨b4, 0, none⟩), .pointer (some ⟨b5, 0, none⟩)] (dyTell cs (daysT cs f t)) Ow w := by
  intro y J Jx O W hO hB hC hJ
  exact DayIter_any cs f t lo hi b1 b2 b3 b4 b5 y J Jx O W hf0 hf1 ht0 ht1 hC hJ (hD.below hB) (fun b h1 h2 h => by rcases hO b h with h3 | h3; exact hn b h1 h2 h3; have := hD.le; omega)
theorem day_enters (args : Array Value) (w : World) : (callFunc 79 args).run Tryz.prog w = .ok (.enter 79 args) w := by simp [go_sem]
end Go.Proofs.YtgiecadlliblpaaGreat
namespace Go.Proofs.YtgiecadlliblpaaGreat
open Go.RowKit
set_option linter.unusedVariables false
attribute [local go_sem] Oper.semAt_some

structure DvF (w : World) (s : Nat → Int) (W : World) : Prop where
  sh : ShS W w.heap.size s
  be : Below w.heap.size w W
  l : w.heap.size < W.heap.size
theorem DvF.keep {w W W' : World} {s : Nat → Int} (h : DvF w s W) (hb : Below W.heap.size W W') : DvF w s W' :=
  ⟨h.sh.below hb h.l, h.be.trans (hb.mono (by have := h.l; omega)), Nat.lt_of_lt_of_le h.l hb.size⟩
abbrev DvS (w : World) (s : Nat → Int) (W : World) : Prop := ShS W w.heap.size s ∧ DvF w s W
theorem DvF.s {w W : World} {s : Nat → Int} (h : DvF w s W) : DvS w s W := ⟨h.sh, h⟩
/-! ### day.Count -/
theorem daysL_pair (a b : Int) : (daysL a b).Pairwise (· < ·) := by
  rw [daysL, List.pairwise_map]
  exact List.Pairwise.imp (fun h => by omega) List.pairwise_lt_range
theorem daysT_pair (cs : List Cl) (a b : Int) : (daysT cs a b).Pairwise (· < ·) := List.Pairwise.filter _ (daysL_pair a b)
theorem daysT_mem {cs : List Cl} {a b n : Int} : n ∈ daysT cs a b ↔ (a ≤ n ∧ n ≤ b) ∧ actB cs n = true := by rw [daysT, List.mem_filter, daysL_mem]
theorem daysT_len (cs : List Cl) (a b : Int) : (daysT cs a b).length ≤ (b - a + 1).toNat := by rw [daysT, ← daysL_len]; exact List.length_filter_le _ _
def CntI (b : Nat) : OwnP := fun k O W => W.cell? ⟨b, 0, none⟩ = some (.int .i64 (k : Nat)) ∧ W.frozen? ⟨b, 0, none⟩ = false ∧ O b ∧ ∀ x, O x → x < W.heap.size
theorem cntI_stab (b : Nat) : StabO (CntI b) := by
  rintro k O W W' ⟨h1, h2, h3, h4⟩ hs hO
  exact ⟨(World.cell?_of_block (w := W) (a := ⟨b, 0, none⟩) (hO b h3)).trans h1, (World.frozen?_of_block (w := W) (a := ⟨b, 0, none⟩) (hO b h3)).trans h2, h3, fun x hx => Nat.lt_of_lt_of_le (h4 x hx) hs⟩
theorem cntI_lt (b : Nat) : LtO (CntI b) := fun k O W h => h.2.2.2
theorem dyTell_get {cs : List Cl} {l : List Int} {k : Nat} (hk : k < (dyTell cs l).length) : (dyTell cs l)[k] = #[shN (l[k]'(by rw [dyTell_len] at hk; exact hk)), .int .u64 (actM cs (l[k]'(by rw [dyTell_len] at hk; exact hk)) : Nat)] := by simp [dyTell]
/-! ### day.Last -/
def LastIs (cs : List Cl) (d : Int) (b : Bool) : Prop :=
  (b = true ∧ 0 ≤ d ∧ d < 146097 ∧ actB cs d = true ∧ ∀ m, d < m → actB cs m = false) ∨ (b = false ∧ d = 0 ∧ ∀ m, actB cs m = false)
def LastR (cs : List Cl) (e : Ending) : Prop := ∃ d b, e = .returned (.tuple #[.int .i64 d, .bool b]) ∧ LastIs cs d b
theorem actB_out {cs : List Cl} {n : Int} (h : ¬ (loC cs ≤ n ∧ n ≤ hiC cs)) : actB cs n = false := by
  rw [← Bool.not_eq_true]
  intro e
  exact h (act_in (by simpa only [actB, decide_eq_true_eq] using e))
structure LsF (w : World) (cs : List Cl) (lo hi : Nat) (a : Option Addr) (l : List Row) (W : World) : Prop where
  liv : LivS W cs lo hi a l
  be : Below w.heap.size w W
theorem LsF.keep {w W W' : World} {cs : List Cl} {lo hi : Nat} {a : Option Addr} {l : List Row} (h : LsF w cs lo hi a l W) (hb : Below W.heap.size W W') : LsF w cs lo hi a l W' :=
  ⟨h.liv.below hb, h.be.trans (hb.mono h.be.size)⟩
end Go.Proofs.YtgiecadlliblpaaGreat
namespace Go.Proofs.YtgiecadlliblpaaGreat
open Go.RowKit
set_option linter.unusedVariables false
attribute [local go_sem] Oper.semAt_some

def NextR (cs : List Cl) (f : Int) (e : Ending) : Prop :=
  (daysT cs f 146096 = [] ∧ e = .returned (.tuple #[shq (fun _ => 0), .int .u64 0, .bool false])) ∨ ∃ n l, daysT cs f 146096 = n :: l ∧ e = .returned (.tuple #[shN n, .int .u64 (actM cs n : Nat), .bool true])
/-- the three results' boxes -/
structure NxC (b : Nat) (s : Nat → Int) (m : Nat) (t : Bool) (O : Nat → Prop) (W : World) : Prop where
  sh : ShS W b s
  c1 : W.cell? ⟨b + 1, 0, none⟩ = some (.int .u64 (m : Nat))
  c2 : W.cell? ⟨b + 1 + 1, 0, none⟩ = some (.bool t)
  fz : ∀ i, i < 10 → W.frozen? ⟨b, i, none⟩ = false
  f1 : W.frozen? ⟨b + 1, 0, none⟩ = false
  f2 : W.frozen? ⟨b + 1 + 1, 0, none⟩ = false
  o : O b ∧ O (b + 1) ∧ O (b + 1 + 1)
  lt : ∀ x, O x → x < W.heap.size
theorem ShS.blk {W W' : World} {b : Nat} {s : Nat → Int} (h : ShS W b s) (hb : W'.heap[b]? = W.heap[b]?) : ShS W' b s := by
  have k : ∀ {i v}, W.cell? ⟨b, i, none⟩ = some v → W'.cell? ⟨b, i, none⟩ = some v := fun {i v} e => (World.cell?_of_block (w := W) (a := ⟨b, i, none⟩) hb).trans e
  obtain ⟨h0, h1, h2, h3, h4, h5, h6, h7, h8, h9⟩ := h
  exact ⟨k h0, k h1, k h2, k h3, k h4, k h5, k h6, k h7, k h8, k h9⟩
theorem NxC.keep {b : Nat} {s : Nat → Int} {m : Nat} {t : Bool} {O : Nat → Prop} {W W' : World} (h : NxC b s m t O W) (hs : W.heap.size ≤ W'.heap.size) (hO : ∀ x, O x → W'.heap[x]? = W.heap[x]?) : NxC b s m t O W' :=
  ⟨h.sh.blk (hO b h.o.1), (World.cell?_of_block (w := W) (a := ⟨b + 1, 0, none⟩) (hO _ h.o.2.1)).trans h.c1, (World.cell?_of_block (w := W) (a := ⟨b + 1 + 1, 0, none⟩) (hO _ h.o.2.2)).trans h.c2,
    fun i hi => (World.frozen?_of_block (w := W) (a := ⟨b, i, none⟩) (hO b h.o.1)).trans (h.fz i hi), (World.frozen?_of_block (w := W) (a := ⟨b + 1, 0, none⟩) (hO _ h.o.2.1)).trans h.f1, (World.frozen?_of_block (w := W) (a := ⟨b + 1 + 1, 0, none⟩) (hO _ h.o.2.2)).trans h.f2, h.o, fun x hx => Nat.lt_of_lt_of_le (h.lt x hx) hs⟩
def NxI (b : Nat) : OwnP := fun k O W => k = 0 ∧ NxC b (fun _ => 0) 0 false O W
def NxX (b : Nat) (cs : List Cl) (DT : List Int) (c : Code) : OwnP := fun _ O W => c = .ret ∧ ∃ n l, DT = n :: l ∧ NxC b (shF n) (actM cs n) true O W
theorem nxI_stab (b : Nat) : StabO (NxI b) := fun k O W W' h hs hO => ⟨h.1, h.2.keep hs hO⟩
theorem nxI_lt (b : Nat) : LtO (NxI b) := fun k O W h => h.2.lt
theorem nxX_stab (b : Nat) (cs : List Cl) (DT : List Int) (c : Code) : StabO (NxX b cs DT c) := fun k O W W' ⟨h1, n, l, h2, h3⟩ hs hO => ⟨h1, n, l, h2, h3.keep hs hO⟩
theorem nxX_lt (b : Nat) (cs : List Cl) (DT : List Int) (c : Code) : LtO (NxX b cs DT c) := fun k O W ⟨h1, n, l, h2, h3⟩ => h3.lt
abbrev put12 (W : World) (b : Nat) (s : Nat → Int) (m : Nat) (t : Bool) : World :=
  ((((((((((((W.setCell ⟨b, 0, none⟩ (.int .i64 (s 0))).setCell ⟨b, 1, none⟩ (.int .i64 (s 1))).setCell ⟨b, 2, none⟩ (.int .i64 (s 2))).setCell ⟨b, 3, none⟩ (.int .i64 (s 3))).setCell ⟨b, 4, none⟩ (.int .i64 (s 4))).setCell ⟨b, 5, none⟩ (.int .i64 (s 5))).setCell ⟨b, 6, none⟩ (.int .i64 (s 6))).setCell ⟨b, 7, none⟩ (.int .i64 (s 7))).setCell ⟨b, 8, none⟩ (.int .i64 (s 8))).setCell ⟨b, 9, none⟩ (.int .i64 (s 9))).setCell ⟨b + 1, 0, none⟩ (.int .u64 (m : Nat))).setCell ⟨b + 1 + 1, 0, none⟩ (.bool t))
theorem put12_blk (W : World) (b : Nat) (s : Nat → Int) (m : Nat) (t : Bool) (k : Nat) (h0 : k ≠ b) (h1 : k ≠ b + 1) (h2 : k ≠ b + 1 + 1) : (put12 W b s m t).heap[k]? = W.heap[k]? := by
  refine (Below.heap_setCell _ _ _ _ h2).trans ((Below.heap_setCell _ _ _ _ h1).trans ?_)
  iterate 10 refine (Below.heap_setCell _ _ _ _ h0).trans ?_
  rfl
theorem put12_size (W : World) (b : Nat) (s : Nat → Int) (m : Nat) (t : Bool) : (put12 W b s m t).heap.size = W.heap.size := by simp [go_sem]
theorem put12_eff (O : Nat → Prop) (W : World) (b : Nat) (s : Nat → Int) (m : Nat) (t : Bool) (ho : O b ∧ O (b + 1) ∧ O (b + 1 + 1)) : Eff O W (put12 W b s m t) := by
  have hb : Below 0 W (put12 W b s m t) := by
    refine below_set (below_set ?_ (by omega)) (by omega)
    iterate 10 refine below_set ?_ (by omega)
    exact Below.refl _ _
  exact ⟨hb.os, hb.tape, hb.output, hb.size, fun k hk hn => put12_blk W b s m t k (fun e => hn (by rw [e]; exact ho.1)) (fun e => hn (by rw [e]; exact ho.2.1)) (fun e => hn (by rw [e]; exact ho.2.2))⟩
theorem NxC.put {b m0 : Nat} {s0 : Nat → Int} {t0 : Bool} {O : Nat → Prop} {W : World} (h : NxC b s0 m0 t0 O W) (s : Nat → Int) (m : Nat) (t : Bool) : NxC b s m t O (put12 W b s m t) := by
  obtain ⟨⟨z0, z1, z2, z3, z4, z5, z6, z7, z8, z9⟩, c1, c2, fz, f1, f2, ho, hlt⟩ := h
  refine ⟨?_, by simp [go_sem, c1], by simp [go_sem, c2], fun i hi => ?_, by simp [go_sem, f1], by simp [go_sem, f2], ho, fun x hx => by rw [put12_size]; exact hlt x hx⟩
  · refine ⟨?_, ?_, ?_, ?_, ?_, ?_, ?_, ?_, ?_, ?_⟩ <;> simp [go_sem, z0, z1, z2, z3, z4, z5, z6, z7, z8, z9]
  · have := fz i hi
    simp [go_sem, this]
theorem below_put12 {B : Nat} {w W : World} {b m : Nat} {s : Nat → Int} {t : Bool} (h : Below B w W) (hb : B ≤ b) : Below B w (put12 W b s m t) := by
  refine below_set (below_set ?_ (by omega)) (by omega)
  iterate 10 refine below_set ?_ hb
  exact h
set_option maxRecDepth 100000 in
set_option maxHeartbeats 6400000 in
theorem DNext_any (f : Int) (a : Option Addr) (cap : Nat) (cs : List Cl) (w : World) (hf0 : 0 ≤ f) (hf1 : f ≤ 146097) (hl : cs.length ≤ 9223372036854775807) (hs : Sl w a (cls cs)) (hok : ∀ c ∈ cs, c.Ok) :
    Calls Tryz.prog 26 #[.int .i64 f, .slice a cs.length cap] w fun e w' => NextR cs f e ∧ Below w.heap.size w w' := by
  obtain ⟨W1, hW1⟩ : ∃ W1, ((w.alloc (.cells #[.int .i64 0, .int .i64 0, .int .i64 0, .int .i64 0, .int .i64 0, .int .i64 0, .int .i64 0, .int .i64 0, .int .i64 0, .int .i64 0] 53)).alloc (.cells #[.int .u64 0] 34)).alloc (.cells #[.bool false] 4) = W1 := ⟨_, rfl⟩
  have q1 : W1.heap.size = w.heap.size + 3 := by rw [← hW1]; simp
  have q2 : Below w.heap.size w W1 := by rw [← hW1]; exact below_new (below_new (below_new (Below.refl _ _) (Nat.le_refl _)) (by simp)) (by simp; omega)
  have q3 : NxI w.heap.size 0 (fun b => b = w.heap.size ∨ b = w.heap.size + 1 ∨ b = w.heap.size + 1 + 1) W1 := by
    refine ⟨rfl, ?_, ?_, ?_, fun i hi => ?_, ?_, ?_, ⟨.inl rfl, .inr (.inl rfl), .inr (.inr rfl)⟩, fun x hx => by omega⟩
    · exact (shC_new w 53 0 0 0 0 0 0 0 0 0 0).below (B := w.heap.size + 1) (by rw [← hW1]; exact below_new (below_new (Below.refl _ _) (by simp)) (by simp)) (by omega)
    · rw [← hW1]; simp [go_sem]
    · rw [← hW1]; simp [go_sem]
    · have : i = 0 ∨ i = 1 ∨ i = 2 ∨ i = 3 ∨ i = 4 ∨ i = 5 ∨ i = 6 ∨ i = 7 ∨ i = 8 ∨ i = 9 := by omega
      rw [← hW1]
      rcases this with rfl | rfl | rfl | rfl | rfl | rfl | rfl | rfl | rfl | rfl <;> simp [go_sem]
    · rw [← hW1]; simp [go_sem]
    · rw [← hW1]; simp [go_sem]
  have cD := hid (DAll_any f 146096 a cap cs W1 hl (hs.below q2) hok)
  have tells := hid (fun lo hi b1 b2 b3 b4 b5 Ow w h1 h2 => day_tells cs f 146096 lo hi b1 b2 b3 b4 b5 Ow w hf0 hf1 (by omega) (by omega) h1 h2)
  obtain ⟨DT, hDT⟩ : ∃ l, daysT cs f 146096 = l := ⟨_, rfl⟩
  rw [hDT] at tells
  have hget : Hid (∀ k (hk : k < (dyTell cs DT).length), (dyTell cs DT)[k] = #[shN (DT[k]'(by rw [dyTell_len] at hk; exact hk)), .int .u64 (actM cs (DT[k]'(by rw [dyTell_len] at hk; exact hk)) : Nat)]) := fun k hk => dyTell_get hk
  have HR : Hid (∀ e : Ending, ((DT = [] ∧ e = .returned (.tuple #[shq (fun _ => 0), .int .u64 0, .bool false])) ∨ ∃ n l, DT = n :: l ∧ e = .returned (.tuple #[shN n, .int .u64 (actM cs n : Nat), .bool true])) → NextR cs f e) := fun e h => by rw [NextR, hDT]; exact h
  have HW1 := hid hW1
  have Q2 := hid q2
  have Q3 := hid q3
  have Q1 := hid q1
  clear hl hs hok hDT hW1 q1 q2 q3 hf0 hf1
  refine (wf_calls (r := none) (n := 1)).mp ?_
  refine callsIn_of_wp_marks Tryz.func26 rfl trivial ?_ rfl
  simp only [Tryz.ntmps26, List.size_toArray, List.length_cons, List.length_nil, Nat.reduceAdd, Nat.reduceSub, Array.replicate_succ, Array.replicate_zero, List.push_toArray, List.append_toArray, List.nil_append, List.cons_append]
  gi_wp2_with fail
  rw [HW1.out]
  refine (wf_calls.mpr cD.out).mono ?_
  rintro e w2 ⟨⟨v, rfl, b1, b2, b3, b4, b5, rfl, hS⟩, hB2⟩
  have HB2 : Hid (Below w.heap.size w w2) := Q2.out.trans (hB2.mono Q2.out.size)
  have I2 : Hid (NxI w.heap.size 0 (fun b => b = w.heap.size ∨ b = w.heap.size + 1 ∨ b = w.heap.size + 1 + 1) w2) := stab_below (nxI_stab _) (nxI_lt _) Q3.out hB2
  have tl := hid (tells.out _ _ _ _ _ _ _ (fun b => b = w.heap.size ∨ b = w.heap.size + 1 ∨ b = w.heap.size + 1 + 1) w2 hS (fun b h1 h2 e => by have := Q1.out; omega))
  clear hS hB2 tells
  gi_wp2_with fail
  refine range_outerV (gf := 79) (lb := #[.pointer (some ⟨b1, 0, none⟩), .pointer (some ⟨b2, 0, none⟩), .pointer (some ⟨b3, 0, none⟩), .pointer (some ⟨b4, 0, none⟩), .pointer (some ⟨b5, 0, none⟩)]) rfl day_enters (dyTell cs DT) (fun b => b = w.heap.size ∨ b = w.heap.size + 1 ∨ b = w.heap.size + 1 + 1) (fun x hx => by simp only [dyTell, List.mem_map] at hx; obtain ⟨_, _, rfl⟩ := hx; rfl) tl.out
    (NxI w.heap.size) (NxX w.heap.size cs DT) (nxI_stab _) (nxX_stab _ _ _) (nxI_lt _) (nxX_lt _ _ _) I2.out
    (fun k O a' W => NxI w.heap.size k O W ∧ ∃ bx n l, DT = n :: l ∧ bx < W.heap.size ∧ ¬ O bx ∧ ShS W bx (shF n) ∧ ∃ (u0 u1 u2 u3 u9 u10 u11 u12 u13 u14 u15 u16 : Value), a' = { tmps := #[u0, u1, u2, u3, .pointer (some ⟨w.heap.size, 0, none⟩), .pointer (some ⟨w.heap.size + 1, 0, none⟩), .pointer (some ⟨w.heap.size + 1 + 1, 0, none⟩), .pointer (some ⟨bx, 0, none⟩), .int .u64 (actM cs n : Nat), u9, u10, u11, u12, u13, u14, u15, u16], defers := [] })
    (fun l o k O a' W' hr hn h => ⟨stab_put (nxI_stab _) h.1 hn o, by obtain ⟨bx, n, l, h1, h2, h3, h4, h5⟩ := h.2; exact ⟨bx, n, l, h1, by rw [World.putObj_size]; exact h2, h3, h4.put hr, h5⟩⟩) ?assign ?body ?done ?stop
  case assign =>
    intro l' k O6 W6 K hk hI hG6 hK
    obtain rfl := hI.1
    have hx := hget.out 0 hk
    obtain ⟨n, l, hnl⟩ : ∃ n l, DT = n :: l := by
      cases DT with
      | nil => rw [dyTell_len] at hk; simp at hk
      | cons n l => exact ⟨n, l, rfl⟩
    have e0 : DT[0]'(by rw [dyTell_len] at hk; exact hk) = n := by simp [hnl]
    rw [e0, ← shq_shF] at hx
    rw [hx]
    obtain ⟨s, hs⟩ : ∃ s, shF n = s := ⟨_, rfl⟩
    rw [hs, shq]
    obtain ⟨M, hM⟩ : ∃ M, actM cs n = M := ⟨_, rfl⟩
    rw [hM]
    have Hs := hid hs
    have HM := hid hM
    have Hnl := hid hnl
    have HI6 := hid hI
    have Hn6 : Hid (¬ O6 W6.heap.size) := fun h => by have := hI.2.lt _ h; omega
    clear hx hs hM hnl e0 hI hG6
    gi_wp2
    have hbel := below_new (o := .cells (shList s).toArray 53) (Below.refl W6.heap.size W6) (Nat.le_refl _)
    exact hK _ O6 _ (Grow.of_below hbel) ⟨stab_below (nxI_stab _) (nxI_lt _) HI6.out hbel, W6.heap.size, n, l, Hnl.out, by simp, Hn6.out, by rw [Hs.out]; exact shC_new W6 53 _ _ _ _ _ _ _ _ _ _, _, _, _, _, _, _, _, _, _, _, _, _, by rw [HM.out]⟩
  case stop =>
    rintro c k O9 w9 hk1 hk2 hG9 ⟨rfl, n, l, hnl, hX⟩ hD hnD
    have hX' : NxC w.heap.size (shF n) (actM cs n) true O9 (w9.putObj w2.heap.size (.deferred none)) := hX.keep (by rw [World.putObj_size]; exact Nat.le_refl _) (fun b hb => World.putObj_heap_other (fun e => hnD (e ▸ hb)))
    have hBf : Hid (Below w.heap.size w (w9.putObj w2.heap.size (.deferred none))) := below_putObj (HB2.out.trans (hG9.eff.below (by rintro b (h | h | h) <;> omega) HB2.out.size)) HB2.out.size _
    have HD := hid hD
    have HX := hid hX'
    have Hnl := hid hnl
    clear hX hG9 hD hX' hnl
    gi_wp2
    refine ⟨by simp, .inl ⟨_, _, rfl, run_takeDeferred HD.out, ?_⟩⟩
    have hN := HR.out (.returned (.tuple #[shN n, .int .u64 (actM cs n : Nat), .bool true])) (.inr ⟨n, l, Hnl.out, rfl⟩)
    obtain ⟨⟨s0, s1, s2, s3, s4, s5, s6, s7, s8, s9⟩, c1, c2, -, -, -, -, -⟩ := HX.out
    refine ⟨.tuple #[shN n, .int .u64 (actM cs n : Nat), .bool true], ?_, hN, hBf.out⟩
    rw [← shq_shF]
    obtain ⟨s, hs⟩ : ∃ s, shF n = s := ⟨_, rfl⟩
    rw [hs] at s0 s1 s2 s3 s4 s5 s6 s7 s8 s9 ⊢
    rw [shq]
    simp [results, Tryz.results26, go_sem, s0, s1, s2, s3, s4, s5, s6, s7, s8, s9, c1, c2]
  case body =>
    rintro l3 k O6 a' W6 hk hG6 hl3 hrec6 hnl3 ⟨hI6, bx, n, l, hnl, lx, nx, hsh, u0, u1, u2, u3, u9, u10, u11, u12, u13, u14, u15, u16, rfl⟩
    obtain ⟨rfl, hC⟩ := hI6
    obtain ⟨⟨z0, z1, z2, z3, z4, z5, z6, z7, z8, z9⟩, c1, c2, fz, f1, f2, ho, hlt⟩ := hC
    have y0 := fz 0 (by omega)
    have y1 := fz 1 (by omega)
    have y2 := fz 2 (by omega)
    have y3 := fz 3 (by omega)
    have y4 := fz 4 (by omega)
    have y5 := fz 5 (by omega)
    have y6 := fz 6 (by omega)
    have y7 := fz 7 (by omega)
    have y8 := fz 8 (by omega)
    have y9 := fz 9 (by omega)
    have Hsh := hid (Eq.refl (shF n))
    obtain ⟨s, hs⟩ : ∃ s, shF n = s := ⟨_, rfl⟩
    obtain ⟨M, hM⟩ : ∃ M, actM cs n = M := ⟨_, rfl⟩
    have Hs := hid hs
    have HM := hid hM
    have Hnl := hid hnl
    have Ho := hid ho
    have Hlt := hid hlt
    have HC6 : Hid (NxC w.heap.size (fun _ => 0) 0 false O6 W6) := ⟨⟨z0, z1, z2, z3, z4, z5, z6, z7, z8, z9⟩, c1, c2, fz, f1, f2, ho, hlt⟩
    rw [hs] at hsh
    rw [hM]
    obtain ⟨s0, s1, s2, s3, s4, s5, s6, s7, s8, s9⟩ := hsh
    have hne : bx ≠ w.heap.size := fun e => nx (e ▸ ho.1)
    clear fz hs hM hnl ho hlt hG6 Hsh hk
    gi_wp2
    have hP := HC6.out.put s M true
    have hE := put12_eff O6 W6 w.heap.size s M true Ho.out
    have hX : NxX w.heap.size cs DT .ret (0 + 1) O6 (put12 W6 w.heap.size s M true) := ⟨rfl, n, l, Hnl.out, by rw [Hs.out, HM.out]; exact hP⟩
    exact ⟨O6, ⟨fun _ h => h, fun _ h => .inl h, hE⟩, hX⟩
  case done =>
    rintro O9 w9 hG9 hI hD hnD
    have hnil : DT = [] := by
      have := hI.1
      rw [dyTell_len] at this
      exact List.eq_nil_of_length_eq_zero this
    have HC9 := hid hI.2
    obtain ⟨-, ⟨z0, z1, z2, z3, z4, z5, z6, z7, z8, z9⟩, c1, c2, fz, f1, f2, ho, hlt⟩ := hI
    have y0 := fz 0 (by omega)
    have y1 := fz 1 (by omega)
    have y2 := fz 2 (by omega)
    have y3 := fz 3 (by omega)
    have y4 := fz 4 (by omega)
    have y5 := fz 5 (by omega)
    have y6 := fz 6 (by omega)
    have y7 := fz 7 (by omega)
    have y8 := fz 8 (by omega)
    have y9 := fz 9 (by omega)
    have hB9 : Below w.heap.size w w9 := HB2.out.trans (hG9.eff.below (by rintro b (h | h | h) <;> omega) HB2.out.size)
    have HB9 := hid hB9
    have HD := hid hD
    have Hnil := hid hnil
    clear fz hG9 hD ho hlt hnil hB9
    gi_wp2
    have hP := HC9.out.put (fun _ => 0) 0 false
    have hw2 := HC9.out.o
    have hDP : (put12 w9 w.heap.size (fun _ => 0) 0 false).heap[w2.heap.size]? = some (.deferred (some [])) := (put12_blk _ _ _ _ _ _ (fun e => hnD (by rw [e]; exact hw2.1)) (fun e => hnD (by rw [e]; exact hw2.2.1)) (fun e => hnD (by rw [e]; exact hw2.2.2))).trans HD.out
    have hBf := below_putObj (below_put12 (b := w.heap.size) (s := fun _ => 0) (m := 0) (t := false) HB9.out (Nat.le_refl _)) HB2.out.size (.deferred none)
    have hX' := hP.keep (W' := (put12 w9 w.heap.size (fun _ => 0) 0 false).putObj w2.heap.size (.deferred none)) (by rw [World.putObj_size]; exact Nat.le_refl _) (fun b hb => World.putObj_heap_other (fun e => hnD (e ▸ hb)))
    have hN := HR.out (.returned (.tuple #[shq (fun _ => 0), .int .u64 0, .bool false])) (.inl ⟨Hnil.out, rfl⟩)
    refine ⟨by simp, .inl ⟨_, _, rfl, run_takeDeferred hDP, ?_⟩⟩
    obtain ⟨⟨s0, s1, s2, s3, s4, s5, s6, s7, s8, s9⟩, e1, e2, -, -, -, -, -⟩ := hX'
    refine ⟨.tuple #[shq (fun _ => 0), .int .u64 0, .bool false], ?_, hN, hBf⟩
    obtain ⟨WF, hWF⟩ : ∃ W, (put12 w9 w.heap.size (fun _ => 0) 0 false).putObj w2.heap.size (.deferred none) = W := ⟨_, rfl⟩
    rw [hWF] at s0 s1 s2 s3 s4 s5 s6 s7 s8 s9 e1 e2
    clear z0 z1 z2 z3 z4 z5 z6 z7 z8 z9 y0 y1 y2 y3 y4 y5 y6 y7 y8 y9 c1 c2 f1 f2
    unfold put12 at hWF
    rw [show ((0 : Nat) : Int) = 0 from rfl] at hWF
    rw [hWF, shq]
    simp [results, Tryz.results26, go_sem, s0, s1, s2, s3, s4, s5, s6, s7, s8, s9, e1, e2]
end Go.Proofs.YtgiecadlliblpaaGreat
namespace Go.Proofs.YtgiecadlliblpaaGreat
open Go.RowKit
set_option linter.unusedVariables false

theorem sorted_ext : ∀ {l m : List Int}, l.Pairwise (· < ·) → m.Pairwise (· < ·) → (∀ x, x ∈ l ↔ x ∈ m) → l = m
  | [], [], _, _, _ => rfl
  | [], y :: m, _, _, h => by have := (h y).2 (by simp); simp at this
  | x :: l, [], _, _, h => by have := (h x).1 (by simp); simp at this
  | x :: l, y :: m, hl, hm, h => by
    rw [List.pairwise_cons] at hl hm
    have e : x = y := by
      rcases List.mem_cons.1 ((h x).1 (by simp)) with e | h1
      · exact e
      · rcases List.mem_cons.1 ((h y).2 (by simp)) with e | h2
        · exact e.symm
        · have a := hm.1 x h1; have b := hl.1 y h2; omega
    subst e
    congr 1
    refine sorted_ext hl.2 hm.2 (fun z => ⟨fun hz => ?_, fun hz => ?_⟩)
    · rcases List.mem_cons.1 ((h z).1 (by simp [hz])) with e | h1
      · subst e; have := hl.1 z hz; omega
      · exact h1
    · rcases List.mem_cons.1 ((h z).2 (by simp [hz])) with e | h1
      · subst e; have := hm.1 z hz; omega
      · exact h1
def febCl (F : Cl) : Cl := { F with m := fun i => if i = 3 then 4 else if i = 4 then 536870912 else F.m i }
theorem Cl.Ok.feb {F : Cl} (h : F.Ok) : (febCl F).Ok :=
  ⟨fun i hi => by show (if i = 3 then 4 else if i = 4 then 536870912 else F.m i) < _; split; decide; split; decide; exact h.m i hi, h.od, h.ys, h.oin, h.unit, h.step, h.anchor, h.fr, h.un⟩
theorem feb_may : mayC (febCl fullCl) = true := by kernel_rfl
theorem hasB_pow {x : Int} {k : Nat} (h0 : 0 ≤ x) (h1 : x < 64) : hasB (2 ^ k) x = decide (x = (k : Int)) := by
  rw [hasB, decide_eq_true h0, Bool.true_and, Nat.testBit_two_pow]
  exact decide_eq_decide.2 (by omega)
theorem feb_date {n : Int} (h0 : 0 ≤ n) (h1 : n < 146097) : dateB (febCl fullCl) (shF n) = decide (fMo n = 2 ∧ fD n = 29) := by
  have hf := date_full h0 h1
  obtain ⟨y0, y1, m0, m1, d0, d1⟩ := fDate_year h0 h1
  have hl := lenI_bd (fY n) (fMo n)
  rw [dateB, domB, if_neg (show ¬ fullCl.or = true by simp [fullCl])] at hf
  simp only [Bool.and_eq_true] at hf
  obtain ⟨⟨f1, f2⟩, f3, f4, f5, f6⟩ := hf
  rw [dateB, domB, if_neg (show ¬ (febCl fullCl).or = true by simp [febCl, fullCl])]
  have e1 : hasB ((febCl fullCl).m 4) (shF n 3) = decide (fD n = 29) := hasB_pow (k := 29) (show 0 ≤ fD n by omega) (show fD n < 64 by omega)
  have e2 : hasB ((febCl fullCl).m 3) (shF n 2) = decide (fMo n = 2) := hasB_pow (k := 2) (show 0 ≤ fMo n by omega) (show fMo n < 64 by omega)
  have e3 : (febCl fullCl).m 6 = fullCl.m 6 := rfl
  have e4 : (febCl fullCl).m 5 = fullCl.m 5 := rfl
  have e5 : (febCl fullCl).ys = fullCl.ys := rfl
  have e6 : nthB (febCl fullCl).oin (febCl fullCl).oback (febCl fullCl).od (shF n) = nthB fullCl.oin fullCl.oback fullCl.od (shF n) := rfl
  rw [e1, e2, e3, e4, e5, e6, f2, f4, f5, f6, Bool.and_true, Bool.and_true, Bool.and_true, Bool.and_true, Bool.eq_iff_iff]
  simp only [Bool.and_eq_true, decide_eq_true_eq]
  exact ⟨fun ⟨a, b⟩ => ⟨b, a⟩, fun ⟨a, b⟩ => ⟨b, a⟩⟩
theorem act_one (c : Cl) (n : Int) : actB [c] n = liveD c n := by
  rw [actB, Bool.eq_iff_iff, decide_eq_true_eq]
  constructor
  · intro h
    cases hb : liveD c n
    · exact absurd (actM_zero.2 (fun i h1 h2 => by
        have : i = 0 := by simpa using h1
        subst this; exact hb)) h
    · rfl
  · intro h e
    have := actM_zero.1 e 0 (by simp) (by omega)
    rw [show atC [c] 0 = c from rfl, h] at this
    cases this
theorem feb_act {n : Int} (h0 : 0 ≤ n) (h1 : n < 146097) : actB [febCl fullCl] n = decide (fMo n = 2 ∧ fD n = 29) := by
  have e1 : frD (febCl fullCl) = 0 := by decide
  have e2 : unD (febCl fullCl) = 146096 := by decide
  have e3 : okD (febCl fullCl) = true := by rw [okD, feb_may]; decide
  have e4 : dayOn (febCl fullCl).unit (febCl fullCl).step (febCl fullCl).anchor n = true := dayOn_size (u := 0) (s := 1) (a := 0) rfl rfl (by omega) (by decide)
  rw [act_one, liveD, e3, onD, e1, e2, dayC, feb_may, feb_date h0 h1, e4, Bool.and_true, Bool.true_and, Bool.true_and, decide_eq_true h0, decide_eq_true (show n ≤ 146096 by omega)]
  rfl
def leapDays : List Int := ((List.range 400).filter (fun (i : Nat) => decide (leapI (1970 + (i : Int)) = 1))).map (fun (i : Nat) => ysI (1970 + i) + 59)
theorem leapDays_len : leapDays.length = 97 := by rw [leapDays, List.length_map]; decide +kernel
theorem leapDays_pair : leapDays.Pairwise (· < ·) := by
  rw [leapDays, List.pairwise_map]
  refine List.Pairwise.imp ?_ (List.Pairwise.filter _ List.pairwise_lt_range)
  intro i j h
  have := ysI_lt (y := 1970 + (i : Int)) (z := 1970 + (j : Int)) (by omega)
  have hl := leapI_bd (1970 + (i : Int))
  omega
theorem ysI_range {y : Int} (h0 : 1970 ≤ y) (h1 : y ≤ 2369) : 0 ≤ ysI y ∧ ysI y + 365 + leapI y ≤ 146097 := by
  constructor
  · by_cases h : y = 1970
    · subst h; decide
    · have := ysI_lt (y := 1970) (z := y) (by omega)
      have e : ysI 1970 = 0 := ysI_first
      have l : leapI 1970 = 0 := by decide
      omega
  · have := ysI_lt (y := y) (z := 2370) (by omega)
    have e : ysI 2370 = 146097 := by decide
    omega
theorem feb_days : daysT [febCl fullCl] 0 146096 = leapDays := by
  refine sorted_ext (daysT_pair _ _ _) leapDays_pair (fun n => ?_)
  rw [daysT_mem, leapDays, List.mem_map]
  constructor
  · rintro ⟨⟨h0, h1⟩, h⟩
    rw [feb_act h0 (by omega), decide_eq_true_eq] at h
    obtain ⟨m, hm, hd, -⟩ := fDate n h0 (by omega)
    obtain rfl : m = 2 := by omega
    obtain ⟨y0, y1, -, -, -, d1, hs⟩ := hd
    rw [h.2] at d1 hs
    have e2 : lenI (fY n) ((2 : Nat) : Int) = 28 + leapI (fY n) := rfl
    have e3 : msI (fY n) 2 = 31 := rfl
    have hl := leapI_bd (fY n)
    refine ⟨(fY n - 1970).toNat, ?_, ?_⟩
    · rw [List.mem_filter, List.mem_range, decide_eq_true_eq, show (1970 : Int) + ((fY n - 1970).toNat : Nat) = fY n by omega]
      omega
    · rw [show (1970 : Int) + ((fY n - 1970).toNat : Nat) = fY n by omega]; omega
  · rintro ⟨i, hi, rfl⟩
    rw [List.mem_filter, List.mem_range, decide_eq_true_eq] at hi
    obtain ⟨hi, hl⟩ := hi
    obtain ⟨r0, r1⟩ := ysI_range (y := 1970 + (i : Int)) (by omega) (by omega)
    have e2 : lenI (1970 + (i : Int)) ((2 : Nat) : Int) = 28 + leapI (1970 + (i : Int)) := rfl
    have e3 : msI (1970 + (i : Int)) 2 = 31 := rfl
    have hd : IsDate (ysI (1970 + (i : Int)) + 59) (1970 + (i : Int)) 2 29 := ⟨by omega, by omega, by omega, by omega, by omega, by omega, by omega⟩
    obtain ⟨m, hm, hd2, -⟩ := fDate (ysI (1970 + (i : Int)) + 59) (by omega) (by omega)
    obtain ⟨u1, u2, u3⟩ := hd2.unique hd
    refine ⟨⟨by omega, by omega⟩, ?_⟩
    rw [feb_act (by omega) (by omega), decide_eq_true_eq]
    exact ⟨by rw [hm, u2]; rfl, u3⟩
theorem feb_97 : (daysT [febCl fullCl] 0 146096).length = 97 := by rw [feb_days, leapDays_len]
theorem frozen_setCells (a : Addr) (b : Nat) : ∀ (vs : List Value) (o : Nat) (W : World), (W.setCells b o vs).frozen? a = W.frozen? a
  | [], _, _ => rfl
  | v :: vs, o, W => by rw [World.setCells, frozen_setCells a b vs (o + 1)]; simp [go_sem]
theorem clB_set {W : World} {b : Nat} {F G : Cl} {k : Nat} {u : Value} (h : ClB W b F) (hk : k < 30) (e : clList G = (clList F).set k u) : ClB (W.setCell ⟨b, k, none⟩ u) b G := by
  have h6 := h.at k (List.getElem?_eq_getElem (show k < (clList F).length from hk))
  intro j v hv
  by_cases hj : j = k
  · subst hj
    have hv' : u = v := by
      rw [e, List.getElem?_set_self (show j < (clList F).length from hk)] at hv
      simpa using hv
    rw [← hv', Nat.zero_add]
    exact World.cell?_setCell_same _ _ _ (by rw [h6])
  · rw [e, List.getElem?_set_ne (by omega)] at hv
    rw [World.cell?_setCell_other _ _ _ _ (by intro e; injection e with _ e2 _; exact hj (by omega))]
    exact h j v hv
def febA (F : Cl) : Cl := { F with m := fun i => if i = 3 then 4 else F.m i }
theorem ClB.feb {W : World} {b : Nat} {F : Cl} (h : ClB W b F) : ClB ((W.setCell ⟨b, 3, none⟩ (.int .u64 4)).setCell ⟨b, 4, none⟩ (.int .u64 536870912)) b (febCl F) :=
  clB_set (F := febA F) (clB_set h (by omega) rfl) (by omega) rfl
attribute [local go_sem ↓] storeAt_cl loadAt_cl
attribute [local go_sem] run_storeClS
end Go.Proofs.YtgiecadlliblpaaGreat

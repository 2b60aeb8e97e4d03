/-
  ferialaw18.Same, and the chapter's example: ferialaw18.lives.
  What feriaref07.All computes: the seconds of three masks.
-/
import Derived.Test.YtcbanlgnanihhaaGreatDoorQf91805
import Derived.Test.YtcbanlgnanihhaaGreatDoorQ1c3beb
import Derived.Test.YtcbanlgnanihhaaGreatDoorQ21a496
import Derived.Deep.RegionHeld3
import Derived.Deep.AppendLies
namespace Go.Proofs.YtcbanlgnanihhaaGreatDoor
open Go.RowKit Go.Maps
set_option linter.unusedVariables false

set_option maxHeartbeats 1600000 in
theorem Same18_any (d : Option Nat) (q : Nat → Bool) (a : Option Addr) (cap : Nat) (L : List Int) (w : World) (hL : L.length ≤ 9223372036854775807) (hs : Sl w a (ints L)) (hT : Tab w) (h : DiscO w d q) :
    Calls Tryz.prog 27 #[dptr d, .slice a L.length cap] w fun e w' => e = .returned (.bool (decide (secL q = L))) ∧ Below w.heap.size w w' := by
  have cT := hid (Told_any d q w hT h)
  have Hs := hid hs
  have hlen := secL_len q
  obtain ⟨v, hv⟩ : ∃ v, dptr d = v := ⟨_, rfl⟩
  obtain ⟨Q, hQ⟩ : ∃ Q, secL q = Q := ⟨_, rfl⟩
  rw [hv] at cT ⊢
  rw [hQ] at cT hlen ⊢
  clear hv hQ hT h hs
  go_enter Tryz.func27, Tryz.ntmps27
  go_wp2_with fail
  refine cT.out.mono ?_
  rintro e w1 ⟨⟨v1, rfl, ho⟩, hB1⟩
  obtain ⟨a1, c1, rfl, hs1, -⟩ := owns_form ho
  have cI := hid (Ints_any a1 a c1 cap Q L w1 (by omega) hL hs1 (Hs.out.below hB1))
  have HB1 := hid hB1
  clear ho hs1 hB1
  go_wp2_with fail
  refine cI.out.mono ?_
  rintro e w2 ⟨rfl, hB2⟩
  have HB2 := hid (HB1.out.trans (hB2.mono HB1.out.size))
  clear hB2
  go_wp2
  go_ret
  exact ⟨rfl, HB2.out⟩

theorem whole_set {cs : List Cl} {n : Int} (h : ∀ c ∈ cs, c.fr = 0 ∧ c.un = 12622780799 ∧ (0 < sizeU c.unit → c.step ≤ 1)) (h0 : 0 ≤ n) (h1 : n < 146097) : wholeB cs n = true := by
  rw [wholeB, List.all_eq_true]
  intro i hi
  rw [List.mem_range] at hi
  rw [atC_get hi]
  obtain ⟨g1, g2, g3⟩ := h _ (List.getElem_mem hi)
  obtain ⟨c, hc⟩ : ∃ c, cs[i] = c := ⟨_, rfl⟩
  rw [hc] at g1 g2 g3 ⊢
  rw [Bool.or_eq_true, decide_eq_true_eq]
  cases hl : liveD c n
  · exact .inl rfl
  · refine .inr ⟨?_, ?_, ?_⟩
    · rw [sF, hl, if_pos rfl, stF, g1]; omega
    · rw [sU, hl, if_pos rfl, stU, g2]; omega
    · rw [sP, hl, if_pos rfl, phaseC, if_neg (fun h => by have := g3 h.2; omega)]
theorem live_full {n : Int} (h0 : 0 ≤ n) (h1 : n < 146097) : liveD fullCl n = true := by
  have h := full_has (t := 86400 * n) (by rw [winB, decide_eq_true_eq]; omega)
  rw [hasC, Bool.and_eq_true, Bool.and_eq_true, Bool.and_eq_true, Bool.and_eq_true, Bool.and_eq_true] at h
  obtain ⟨-, -, -, -, -, hd⟩ := h
  rw [show 86400 * n / 86400 = n by omega] at hd
  rw [liveD, okD, onD, may_full, hd]
  have e : heldB fullCl.fr fullCl.un = true := by decide
  have e1 : frD fullCl = 0 := by decide
  have e2 : unD fullCl = 146096 := by decide
  rw [e, e1, e2, decide_eq_true h0, decide_eq_true (by omega)]; rfl
theorem act_full {n : Int} (h0 : 0 ≤ n) (h1 : n < 146097) : actM [fullCl] n = 1 := by
  have e : actM [fullCl] n = mk fun i => decide (i = 0) := by
    rw [actM]
    congr 1
    funext i
    by_cases hi : i = 0
    · subst hi; show (decide (0 < 1) && liveD fullCl n) = _; rw [live_full h0 h1]; rfl
    · rw [decide_eq_false (show ¬ i < [fullCl].length by simp; omega), decide_eq_false hi]; rfl
  rw [e]; decide +kernel
theorem any_full {n : Int} (h0 : 0 ≤ n) (h1 : n < 146097) : anyQ (dayQ [fullCl] n) = true := by
  refine anyQ_true.2 ⟨0, by omega, ?_⟩
  rw [dayQ, List.any_cons, full_has (by rw [winB, decide_eq_true_eq]; omega)]; rfl
theorem dayS_full {f t : Int} (h0 : 0 ≤ f) (h1 : t < 146097) : dayS [fullCl] (daysL f t) = daysL f t := by
  rw [dayS, List.filter_eq_self]
  intro n hn
  have := daysL_mem.1 hn
  exact any_full (by omega) (by omega)
theorem fault_full : faultL [fullCl] = 0 := by
  rw [faultL, if_neg (by simp), if_pos (by simp [may_full])]
theorem full_okL : ∀ c ∈ [fullCl], c.Ok := fun c hc => by rw [List.mem_singleton.1 hc]; exact full_ok
/-- of the whole set one disc is made -/
def InvL (j : Nat) (ws : Nat → Bool) (m : Nat) : Prop := m = (if j = 0 then 0 else 1) ∧ ws = fun i => decide (0 < j) && decide (i = 1)
theorem invL_step {n : Int} (h0 : 0 ≤ n) (h1 : n < 146097) {j : Nat} {ws ws' : Nat → Bool} {m m' : Nat} (h : InvL j ws m) (hs : AtStep [fullCl] n ws m ws' m') : InvL (j + 1) ws' m' := by
  have hw : wholeB [fullCl] n = true := whole_set (fun c hc => by rw [List.mem_singleton.1 hc]; exact ⟨rfl, rfl, fun _ => by decide⟩) h0 h1
  obtain ⟨rfl, rfl⟩ := h
  rw [AtStep, act_full h0 h1, hw] at hs
  rcases hs with ⟨h, -⟩ | ⟨-, -, rfl, rfl⟩ | ⟨-, h, -⟩
  · omega
  · refine ⟨?_, ?_⟩
    · by_cases hj : j = 0
      · simp [hj]
      · have : 0 < j := by omega
        simp [hj, this]
    · funext i
      by_cases hi : i = 1
      · simp [hi]
      · simp [hi]
  · cases h
/-- a counter in a box -/
def CntF (b : Nat) : OwnF := fun k O _ W => W.cell? ⟨b, 0, none⟩ = some (.int .i64 (k : Nat)) ∧ W.frozen? ⟨b, 0, none⟩ = false ∧ O b ∧ ∀ x, O x → x < W.heap.size
theorem cntF_stab (b : Nat) (M : Blk) : StabF M (CntF b) := fun k O F F' W W' ⟨h1, h2, h3, h4⟩ hs hF hO =>
  ⟨(World.cell?_of_block (w := W) (a := ⟨b, 0, none⟩) (hO b (.inl h3))).trans h1, (World.frozen?_of_block (w := W) (a := ⟨b, 0, none⟩) (hO b (.inl h3))).trans h2, h3, fun x hx => by have := h4 x hx; omega⟩
theorem cntF_lt (b : Nat) : LtF (CntF b) := fun k O F W h => h.2.2.2
theorem lives18_enters (args : Array Value) (w : World) : (callFunc 39 args).run Tryz.prog w = .ok (.enter 39 args) w := by simp [go_sem]
set_option maxHeartbeats 1600000 in
theorem Lives181_any (s : Nat → Int) (d : Value) (b : Nat) (k : Nat) (O F : Blk) (W : World) (hk : k < 1000000) (h : CntF b k O F W) :
    Calls Tryz.prog 39 #[shq s, d, .pointer (some ⟨b, 0, none⟩)] W fun e W' => e = .returned (.bool true) ∧ CntF b (k + 1) O F W' ∧ Eff O W W' := by
  obtain ⟨h1, h2, h3, h4⟩ := h
  have hb := h4 b h3
  obtain ⟨W1, hW1⟩ : ∃ W1, W.alloc (.cells #[.int .i64 (s 0), .int .i64 (s 1), .int .i64 (s 2), .int .i64 (s 3), .int .i64 (s 4), .int .i64 (s 5), .int .i64 (s 6), .int .i64 (s 7), .int .i64 (s 8), .int .i64 (s 9)] 63) = W1 := ⟨_, rfl⟩
  have hB1 : Below W.heap.size W W1 := by rw [← hW1]; exact below_new (Below.refl _ _) (Nat.le_refl _)
  have k1 := (hB1.cell (p := ⟨b, 0, none⟩) hb).trans h1
  have k2 := (hB1.frozen (p := ⟨b, 0, none⟩) hb).trans h2
  have hfin : Hid (∀ W2, W2 = W1.setCell ⟨b, 0, none⟩ (.int .i64 ((k + 1 : Nat) : Int)) → CntF b (k + 1) O F W2 ∧ Eff O W W2) := by
    rintro W2 rfl
    exact ⟨⟨by simp [go_sem, k1], by simp [go_sem, k2], h3, fun x hx => by have := h4 x hx; have := hB1.size; simpa [go_sem] using (by omega : x < W1.heap.size)⟩, (Eff.of_below hB1).set h3 _ _⟩
  have HW1 := hid hW1
  clear hW1 hB1 h1 h2 h3 h4
  rw [shq]
  go_enter Tryz.func39, Tryz.ntmps39
  go_upto_region 1 with fail
  rw [HW1.out]
  go_wp2
  go_ret
  exact ⟨rfl, hfin.out _ (by rw [show ((k + 1 : Nat) : Int) = (k : Int) + 1 by omega])⟩
theorem lives18_client (b n : Nat) (hn : n < 1000000) {cs : List Cl} {M : Blk} {xs : List Int} (O0 : Blk) (W0 : World) :
    ClientH Tryz.prog (.func (.func 39) #[] #[.pointer (some ⟨b, 0, none⟩)]) n (VRoll cs M xs) M (CntF b) (fun _ _ _ _ => False) O0 W0 where
  form := ⟨_, _, _, rfl⟩
  stab := cntF_stab b M
  stabx := fun _ _ _ _ _ _ h => h.elim
  lt := cntF_lt b
  ltx := fun _ _ _ _ h => h.elim
  call := by
    rintro k O F W vs hk hJ hFO ⟨x, d, h1, h2, h3, rfl, -⟩ hG
    rw [← shq_shF]
    refine .inl ⟨_, _, rfl, lives18_enters, ?_⟩
    show Calls Tryz.prog 39 #[shq (shF x), .pointer (some ⟨d, 0, none⟩), .pointer (some ⟨b, 0, none⟩)] W _
    exact (Lives181_any (shF x) _ b k O F W (by omega) hJ).mono fun e W' ⟨e1, e2, e3⟩ => ⟨O, fun _ h => h, fun _ h => .inl h, e3, .inl ⟨e1, e2⟩⟩
theorem hul_full : bndF [fullCl] 0 = 0 ∧ bndU [fullCl] 9 = 9 := ⟨by decide, by decide⟩
theorem invL_bd {j : Nat} {ws : Nat → Bool} {m : Nat} (h : InvL j ws m) : m ≤ 1 := by rw [h.1]; split <;> omega
set_option maxRecDepth 100000 in
set_option maxHeartbeats 3200000 in
theorem Lives18_any (w : World) (hT : Tab w) : Calls Tryz.prog 11 #[] w fun e w' => e = .returned (.bool true) ∧ Below w.heap.size w w' := by
  have HT := hid hT
  have cW := hid (IWhole_any w)
  have cN := hid (fun (g : Nat) W (hB : Below w.heap.size w W) (ho : OwnR w W [fullCl] (.slice (some ⟨g, 0, none⟩) 1 1)) => RNew_any (some ⟨g, 0, none⟩) 1 [fullCl] W (by simp) (by simp) (owns_sl ho) (by simp) full_okL (HT.out.later hB))
  clear hT
  go_enter Tryz.func11, Tryz.ntmps11
  go_wp2_with fail
  refine cW.out.mono ?_
  rintro e w1 ⟨⟨g, rfl, ho⟩, hB1⟩
  have c2 := hid (cN.out g w1 hB1 ho)
  have HB1 := hid hB1
  clear ho hB1
  go_wp2_with fail
  refine c2.out.mono ?_
  rintro e w2 ⟨hN, hB2⟩
  rcases hN with ⟨h, -⟩ | ⟨-, br, bk, bps, rfl, hR, hM⟩
  · exact absurd fault_full h
  have HB2 : Hid (Below w.heap.size w w2) := HB1.out.trans (hB2.mono HB1.out.size)
  have c3 := hid (RAllC_any 0 9 hR (InvL 0) ⟨rfl, by funext i; simp⟩)
  rw [hul_full.1, hul_full.2] at c3
  have HM := hid (fun b hb => Nat.le_trans HB1.out.size (hM b hb))
  clear hR hM hB2
  go_wp2_with fail
  refine c3.out.mono ?_
  rintro e w3 ⟨rfl, hB3, hl3, hH3⟩
  have hnil := fun (c : Array Value) W => run_eq_nilFunc (P := Tryz.prog) (t := 74) (f := .func 74) (a := #[]) (c := c) (w := W) ⟨_, _, _, Tryz.underlying74⟩
  have HB3 : Hid (Below w.heap.size w w3) := HB2.out.trans (hB3.mono HB2.out.size)
  obtain ⟨W0, hW0⟩ : ∃ W0, w3.alloc (.cells #[.int .i64 0] 3) = W0 := ⟨_, rfl⟩
  have q1 : W0.cell? ⟨w3.heap.size, 0, none⟩ = some (.int .i64 0) := by rw [← hW0]; simp [go_sem]
  have q2 : W0.frozen? ⟨w3.heap.size, 0, none⟩ = false := by rw [← hW0]; simp [go_sem]
  have q3 : W0.heap.size = w3.heap.size + 1 := by rw [← hW0]; simp
  have q4 : Below w3.heap.size w3 W0 := by rw [← hW0]; exact below_new (Below.refl _ _) (Nat.le_refl _)
  have hH0 := hH3.keep q4.size (fun b hb => q4.block b (hH3.lt b hb))
  have hlt3 := hH3.lt
  have hI := RAllF_any (cs := [fullCl]) (br := br) (bk := bk) (bps := bps) InvL (w2.heap.size + 1) (w2.heap.size + 2) w2.heap.size 0 9 (by omega) (by omega) (by omega) (by omega)
    (fun j n ws m ws' m' hn hi hs => by
      have := daysL_mem.1 (List.mem_of_getElem? hn)
      exact invL_step (by omega) (by omega) hi hs) (fun j ws m hi hj => by have := invL_bd hi; omega)
    _ _ _ (fun b => b = w3.heap.size) _ W0 hH0 (fun b hb e => by have := hlt3 b hb; omega) (lives18_client w3.heap.size _ (by rw [dayS_full (by omega) (by omega), daysL_len]; omega) _ W0) ⟨q1, q2, rfl, fun x hx => by omega⟩
  rw [dayS_full (by omega) (by omega), daysL_len] at hI
  have HI := hid hI
  have HW0 := hid hW0
  have HB4 := hid (HB3.out.trans (q4.mono HB3.out.size))
  have hs3 : Hid (w.heap.size ≤ w3.heap.size) := HB3.out.size
  clear hI hW0 q1 q2 q3 q4 hH3 hH0 hlt3 hB3 hl3
  go_wp2_with fail
  rw [HW0.out]
  refine HI.out.mono ?_
  rintro e w5 ⟨⟨v, rfl⟩, O', F', hG, hF1, hF2, hFO, hend⟩
  rcases hend with hend | ⟨-, _, _, _, hx⟩
  rotate_left
  · exact hx.elim
  obtain ⟨hH5, hJ5⟩ := hend
  obtain ⟨ws, m, hR5, hI5⟩ := hH5.roll
  obtain rfl : m = 1 := hI5.1
  have k5 : w5.cell? ⟨w3.heap.size, 0, none⟩ = some (.int .i64 10) := hJ5.1
  have HB5 : Hid (Below w.heap.size w w5) := HB4.out.trans (hG.eff.below (fun b hb => by
    rcases hb with h | h
    · have := hs3.out; omega
    · exact HM.out b h) HB4.out.size)
  have cM := hid (RMadeN_any hR5)
  clear hG hF1 hF2 hFO hH5 hJ5 hR5 hI5
  go_wp2_with fail
  refine cM.out.mono ?_
  rintro e w6 ⟨rfl, rfl⟩
  go_wp2
  go_ret
  exact ⟨rfl, HB5.out⟩
end Go.Proofs.YtcbanlgnanihhaaGreatDoor
namespace Go.Proofs.YtcbanlgnanihhaaGreatDoor
open Go.RowKit
set_option linter.unusedVariables false

theorem secs_snoc (H M S : List Int) (i : Nat) (hi : i < H.length) : secs (H.take (i + 1)) M S = secs (H.take i) M S ++ secHour H[i] M S := by
  unfold secs; rw [take_snoc H i hi, List.flatMap_append, List.flatMap_cons, List.flatMap_nil, List.append_nil]
theorem secHour_snoc (h : Int) (M S : List Int) (i : Nat) (hi : i < M.length) : secHour h (M.take (i + 1)) S = secHour h (M.take i) S ++ secRow h M[i] S := by
  unfold secHour; rw [take_snoc M i hi, List.flatMap_append, List.flatMap_cons, List.flatMap_nil, List.append_nil]
theorem secRow_snoc (h m : Int) (S : List Int) (i : Nat) (hi : i < S.length) : secRow h m (S.take (i + 1)) = secRow h m (S.take i) ++ [3600 * h + 60 * m + S[i]] := by
  unfold secRow; rw [take_snoc S i hi, List.map_append, List.map_cons, List.map_nil]

set_option maxRecDepth 100000 in
set_option maxHeartbeats 3200000 in
theorem RAll_any (hs ms ss : Nat) (w : World) (hh : hs < 18446744073709551616) (hm : ms < 18446744073709551616) (hss : ss < 18446744073709551616) :
    Calls Tryz.prog 101 #[.int .u64 hs, .int .u64 ms, .int .u64 ss] w fun e w' => ∃ v, e = .returned v ∧
      w'.ownsRow w.heap.size 3 1 v (secs (sel (cutM hs 23).testBit 64) (sel (cutM ms 59).testBit 64) (sel (cutM ss 59).testBit 64)).length (ints (secs (sel (cutM hs 23).testBit 64) (sel (cutM ms 59).testBit 64) (sel (cutM ss 59).testBit 64))) ∧ Below w.heap.size w w' := by
  have c1 : Hid (∀ W, Calls Tryz.prog 148 #[.int .u64 hs, .int .i64 23] W fun e w' => e = .returned (.int .u64 (cutM hs 23)) ∧ Below W.heap.size W w') := fun W => RHeld_any hs 23 W hh (by omega)
  have c2 : Hid (∀ W, Calls Tryz.prog 148 #[.int .u64 ms, .int .i64 59] W fun e w' => e = .returned (.int .u64 (cutM ms 59)) ∧ Below W.heap.size W w') := fun W => RHeld_any ms 59 W hm (by omega)
  have c3 : Hid (∀ W, Calls Tryz.prog 148 #[.int .u64 ss, .int .i64 59] W fun e w' => e = .returned (.int .u64 (cutM ss 59)) ∧ Below W.heap.size W w') := fun W => RHeld_any ss 59 W hss (by omega)
  have d1 := hid (fun W => own_ret (RList_any (cutM hs 23) W (cutM_lt 23 hh)))
  have d2 := hid (fun W => own_ret (RList_any (cutM ms 59) W (cutM_lt 59 hm)))
  have d3 := hid (fun W => own_ret (RList_any (cutM ss 59) W (cutM_lt 59 hss)))
  have lH := sel_len (cutM hs 23).testBit 64
  have lM := sel_len (cutM ms 59).testBit 64
  have lS := sel_len (cutM ss 59).testBit 64
  have bH := hid (fun k hk => sel_bd (p := (cutM hs 23).testBit) k hk)
  have bM := hid (fun k hk => sel_bd (p := (cutM ms 59).testBit) k hk)
  have bS := hid (fun k hk => sel_bd (p := (cutM ss 59).testBit) k hk)
  obtain ⟨H, eH⟩ : ∃ l, sel (cutM hs 23).testBit 64 = l := ⟨_, rfl⟩
  obtain ⟨M, eM⟩ : ∃ l, sel (cutM ms 59).testBit 64 = l := ⟨_, rfl⟩
  obtain ⟨S, eS⟩ : ∃ l, sel (cutM ss 59).testBit 64 = l := ⟨_, rfl⟩
  rw [eH] at lH bH d1 ⊢
  rw [eM] at lM bM d2 ⊢
  rw [eS] at lS bS d3 ⊢
  clear eH eM eS hh hm hss
  obtain ⟨x, ex⟩ : ∃ x, cutM hs 23 = x := ⟨_, rfl⟩
  obtain ⟨y, ey⟩ : ∃ x, cutM ms 59 = x := ⟨_, rfl⟩
  obtain ⟨z, ez⟩ : ∃ x, cutM ss 59 = x := ⟨_, rfl⟩
  rw [ex] at c1 d1
  rw [ey] at c2 d2
  rw [ez] at c3 d3
  clear ex ey ez
  obtain ⟨i0, hi0, hz0, hz1, hz2⟩ := info_parts eInt.hi
  go_enter Tryz.func101, Tryz.ntmps101
  go_wp2_with fail
  refine (c1.out w).mono ?_
  rintro e w1 ⟨rfl, hB1⟩
  go_wp2_with fail
  refine (d1.out w1).mono ?_
  rintro e w2 ⟨aH, nH, cH, rfl, hnH, hsH, hoH, hB2⟩
  have HB2 : Hid (Below w.heap.size w w2) := hB1.trans (hB2.mono hB1.size)
  clear hoH hB1 hB2
  go_wp2_with fail
  refine (c2.out w2).mono ?_
  rintro e w3 ⟨rfl, hB3⟩
  go_wp2_with fail
  refine (d2.out w3).mono ?_
  rintro e w4 ⟨aM, nM, cM, rfl, hnM, hsM, hoM, hB4⟩
  have hBB : Below w2.heap.size w2 w4 := hB3.trans (hB4.mono hB3.size)
  have HB4 : Hid (Below w.heap.size w w4) := HB2.out.trans (hBB.mono HB2.out.size)
  have hsH4 := hsH.below hBB
  clear hoM hB3 hB4 hBB hsH
  go_wp2_with fail
  refine (c3.out w4).mono ?_
  rintro e w5 ⟨rfl, hB5⟩
  go_wp2_with fail
  refine (d3.out w5).mono ?_
  rintro e W0 ⟨aS, nS, cS, rfl, hnS, hsS, hoS, hB6⟩
  have hBB : Below w4.heap.size w4 W0 := hB5.trans (hB6.mono hB5.size)
  have HB0 : Hid (Below w.heap.size w W0) := HB4.out.trans (hBB.mono HB4.out.size)
  have HsH := hid (hsH4.below hBB)
  have HsM := hid (hsM.below hBB)
  have HsS := hid hsS
  obtain rfl := hnH.out
  obtain rfl := hnM.out
  obtain rfl := hnS.out
  clear hoS hB5 hB6 hBB hsH4 hsM hsS HB2 HB4 hnH hnM hnS d1 d2 d3 c1 c2 c3
  go_wp2_with fail
  go_loopw [10, 11, 12, 13] (fun v i _ _ wr => ∃ (n q cq : Nat) (aq : Option Addr), i = .int .i64 n ∧ n ≤ H.length ∧ v = .slice aq q cq ∧ q ≤ 4096 * n ∧ Hid (q = (secs (H.take n) M S).length) ∧ wr.ownsRow W0.heap.size 3 1 (.slice aq q cq) q (ints (secs (H.take n) M S)) ∧ Below W0.heap.size W0 wr) (fun _ i _ _ _ => H.length - (intOf i).toNat)
  case atStart => exact ⟨0, 0, 0, none, rfl, by omega, rfl, by omega, (rfl : (0 : Nat) = 0), World.ownsRow_nil _ _ _ _, Below.refl _ _⟩
  case round =>
    obtain ⟨n, q, cq, aq, rfl, hn, rfl, hq, Hq, hown, hB⟩ := hrel
    by_cases hlt : n < H.length
    · obtain ⟨bh, oh, rfl, hbh, hch⟩ := HsH.out.atInt hlt
      have eh := hch n hlt
      have fh := bH.out n hlt
      have Hsn := hid (secs_snoc H M S n hlt)
      obtain ⟨h, hh⟩ : ∃ h, H[n] = h := ⟨_, rfl⟩
      rw [hh] at eh fh Hsn
      obtain ⟨fh1, fh2⟩ := fh
      clear hch hh
      go_wp2_with fail
      go_loopw [10, 12, 13] (fun v i _ wr => ∃ (m q cq : Nat) (aq : Option Addr), i = .int .i64 m ∧ m ≤ M.length ∧ v = .slice aq q cq ∧ q ≤ 4096 * n + 64 * m ∧ Hid (q = (secs (H.take n) M S ++ secHour h (M.take m) S).length) ∧ wr.ownsRow W0.heap.size 3 1 (.slice aq q cq) q (ints (secs (H.take n) M S ++ secHour h (M.take m) S)) ∧ Below W0.heap.size W0 wr) (fun _ i _ _ => M.length - (intOf i).toNat)
      case atStart => exact ⟨0, q, cq, aq, rfl, by omega, rfl, by omega, by simpa [secHour] using Hq, by simpa [secHour] using hown, hB⟩
      case round =>
        clear hown hB Hq hq
        obtain ⟨m, q, cq, aq, rfl, hm, rfl, hq, Hq, hown, hB⟩ := hrel
        by_cases hlt2 : m < M.length
        · obtain ⟨bm, om, rfl, hbm, hcm⟩ := HsM.out.atInt hlt2
          have em := hcm m hlt2
          have fm := bM.out m hlt2
          have Hsm := hid (secHour_snoc h M S m hlt2)
          obtain ⟨mm, hmm⟩ : ∃ h, M[m] = h := ⟨_, rfl⟩
          rw [hmm] at em fm Hsm
          obtain ⟨fm1, fm2⟩ := fm
          clear hcm hmm
          go_wp2_with fail
          go_loopw [10, 13] (fun v i wr => ∃ (j q cq : Nat) (aq : Option Addr), i = .int .i64 j ∧ j ≤ S.length ∧ v = .slice aq q cq ∧ q ≤ 4096 * n + 64 * m + j ∧ Hid (q = ((secs (H.take n) M S ++ secHour h (M.take m) S) ++ secRow h mm (S.take j)).length) ∧ wr.ownsRow W0.heap.size 3 1 (.slice aq q cq) q (ints ((secs (H.take n) M S ++ secHour h (M.take m) S) ++ secRow h mm (S.take j))) ∧ Below W0.heap.size W0 wr) (fun _ i _ => S.length - (intOf i).toNat)
          case atStart => exact ⟨0, q, cq, aq, rfl, by omega, rfl, by omega, by simpa [secRow] using Hq, by simpa [secRow] using hown, hB⟩
          case round =>
            clear hown hB Hq hq
            obtain ⟨j, q, cq, aq, rfl, hj, rfl, hq, Hq, hown, hB⟩ := hrel
            by_cases hlt3 : j < S.length
            · obtain ⟨bs, os, rfl, hbs, hcs⟩ := HsS.out.atInt hlt3
              have es := (hB.cell (p := ⟨bs, os + j, none⟩) hbs).trans (hcs j hlt3)
              have eh' := (hB.cell (p := ⟨bh, oh + n, none⟩) hbh).trans eh
              have em' := (hB.cell (p := ⟨bm, om + m, none⟩) hbm).trans em
              have fs := bS.out j hlt3
              have Hss := hid (secRow_snoc h mm S j hlt3)
              obtain ⟨s, hs⟩ : ∃ h, S[j] = h := ⟨_, rfl⟩
              rw [hs] at es fs Hss
              obtain ⟨fs1, fs2⟩ := fs
              clear hcs hs eh em
              have ag : (Value.slice aq q cq).ownBlock ≠ some bh := fun e => by have := (owns_lt hown e).1; omega
              have ak : (Value.slice aq q cq).ownBlock ≠ some bm := fun e => by have := (owns_lt hown e).1; omega
              have av : (Value.slice aq q cq).ownBlock ≠ some bs := fun e => by have := (owns_lt hown e).1; omega
              have Hown := hid hown
              have hsz := hB.size
              have HB := hid hB
              clear hown hB
              go_wp2_with fail
              go_region_held3 (fun w' => w'.cell? ⟨bh, oh + n, none⟩ = some (.int .i64 h) ∧ w'.cell? ⟨bm, om + m, none⟩ = some (.int .i64 mm) ∧ w'.cell? ⟨bs, os + j, none⟩ = some (.int .i64 s))
                (first
                  | go_keep
                  | (go_split_ands
                     refine ⟨?_, ?_, ?_⟩
                     · (rw [hgrow.cell_far _ (by simp; omega) (Ne.symm ag)]; assumption)
                     · (rw [hgrow.cell_far _ (by simp; omega) (Ne.symm ak)]; assumption)
                     · (rw [hgrow.cell_far _ (by simp; omega) (Ne.symm av)]; assumption)))
                ((refine step_append_lies _ (by rfl) _ _ _ (by rfl) W0.heap.size 3 i0 _ 1 8 Tryz.underlying58 hi0 hz0 hz1 hz2 rfl (by omega) (.slice aq q cq) q _ (by rfl) ((Hown.out.alloc _).drew)
                    ⟨wr.heap.size, 0, none⟩ 1 1 [.int .i64 (IntKind.i64.wrap (IntKind.i64.wrap (IntKind.i64.wrap (3600 * h) + IntKind.i64.wrap (60 * mm)) + s))] (by rfl) (by rfl) (World.news_of_block (cs := #[.int .i64 (IntKind.i64.wrap (IntKind.i64.wrap (IntKind.i64.wrap (3600 * h) + IntKind.i64.wrap (60 * mm)) + s))]) (t := 3) (fr := (0, 0)) (heap_alloc_new wr _)) (by simp [Value.oneCell'])
                    (by omega) (by unfold maxLen; omega) (by omega) (by simp; omega) (wr.heap.size + 1) (by simp) ?_; intro gg cap w1 hown1 hgrow hat hlt))
              have hV : IntKind.i64.wrap (IntKind.i64.wrap (IntKind.i64.wrap (3600 * h) + IntKind.i64.wrap (60 * mm)) + s) = 3600 * h + 60 * mm + s := by
                simp only [IntKind.wrap_i64]
                omega
              rw [hV, ← ints_one, ← ints_append, List.append_assoc, ← Hss.out] at hown1
              have hb1 : Below W0.heap.size W0 w1 := (below_new HB.out hsz).drew.trans (Below.of_grown hgrow (by simp; omega) (fun k hk => (owns_lt Hown.out hk).1))
              have hq1 : Hid (q + 1 = (secs (H.take n) M S ++ secHour h (M.take m) S ++ secRow h mm (S.take (j + 1))).length) := by
                show q + 1 = _
                rw [Hss.out, ← List.append_assoc, List.length_append, ← Hq.out]; rfl
              have HOwn1 := hid hown1
              have HB1 := hid hb1
              clear hV hown1 hb1 hgrow ag ak av hat
              go_wp2
              exact ⟨⟨j + 1, q + 1, cap, some ⟨gg, 0, none⟩, by go_num, by omega, rfl, by omega, hq1, HOwn1.out, HB1.out⟩, by simp [intOf]; omega⟩
            · obtain rfl : j = S.length := by omega
              rw [List.take_length] at Hq hown
              have hq1 : Hid (q = (secs (H.take n) M S ++ secHour h (M.take (m + 1)) S).length) := by rw [Hsm.out, ← List.append_assoc]; exact Hq
              have ho1 : Hid (wr.ownsRow W0.heap.size 3 1 (.slice aq q cq) q (ints (secs (H.take n) M S ++ secHour h (M.take (m + 1)) S))) := by rw [Hsm.out, ← List.append_assoc]; exact hown
              clear hown Hq em eh
              go_wp2
              exact ⟨⟨m + 1, q, cq, aq, by go_num, by omega, rfl, by omega, hq1, ho1.out, hB⟩, by simp [intOf]; omega⟩
        · obtain rfl : m = M.length := by omega
          rw [List.take_length] at Hq hown
          rw [← Hsn.out] at Hq hown
          have ho1 := hid hown
          clear hown eh
          go_wp2
          exact ⟨⟨n + 1, q, cq, aq, by go_num, by omega, rfl, by omega, Hq, ho1.out, hB⟩, by simp [intOf]; omega⟩
    · obtain rfl : n = H.length := by omega
      rw [List.take_length] at Hq hown
      have ho1 := hid hown
      clear hown
      go_wp2
      go_ret
      exact ⟨_, rfl, by rw [← Hq.out]; exact owns_base ho1.out HB0.out.size, HB0.out.trans (hB.mono HB0.out.size)⟩
end Go.Proofs.YtcbanlgnanihhaaGreatDoor

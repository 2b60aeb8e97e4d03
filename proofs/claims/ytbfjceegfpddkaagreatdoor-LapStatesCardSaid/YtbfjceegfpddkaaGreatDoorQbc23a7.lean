/-
  The seconds of a clause's state on a day are those of the day's instants that have the clause.
  lap.On of any clause; the state by the document (ferialaw16.state).
  Discs: their words in a block; what the small functions of disc compute.
-/
import Derived.Test.YtbfjceegfpddkaaGreatDoorQe384e2
import Derived.Test.YtbfjceegfpddkaaGreatDoorQec27eb
import Derived.Test.YtbfjceegfpddkaaGreatDoorQc6328a
import Derived.Test.YtbfjceegfpddkaaGreatDoorQ67a372
namespace Go.Proofs.YtbfjceegfpddkaaGreatDoor
open Go.RowKit
set_option linter.unusedVariables false

/-- a second is of a phase -/
def okS (c : Cl) (p : Int) (k : Nat) : Bool :=
  if 0 < sizeU c.unit ∧ (1 < c.step ∨ 0 < p) then decide (p ≤ (k : Int) / sizeU c.unit) && decide (((k : Int) / sizeU c.unit - p) % c.step = 0) else true
/-- the seconds of a state -/
def secQ (c : Cl) (a : Bool) (f u p : Int) (k : Nat) : Bool := a && (decide (0 ≤ p) && (mayC c && (todIn k (c.m 2) (c.m 1) (c.m 0) && (betB f u k && okS c p k))))
theorem phase_mod {a b s x : Int} (hs : 1 ≤ s) (hx : 0 ≤ x) : (decide ((a - b) % s ≤ x) && decide ((x - (a - b) % s) % s = 0)) = decide ((b + x - a) % s = 0) := by
  have e : (x - (a - b) % s) % s = (b + x - a) % s := by
    rw [Int.sub_emod x, Int.emod_emod_of_dvd _ (Int.dvd_refl s), ← Int.sub_emod, show x - (a - b) = b + x - a by omega]
  have r0 : 0 ≤ (a - b) % s := Int.emod_nonneg _ (by omega)
  have r1 : (a - b) % s < s := Int.emod_lt_of_pos _ (by omega)
  rw [Bool.eq_iff_iff, Bool.and_eq_true, decide_eq_true_eq, decide_eq_true_eq, decide_eq_true_eq, e]
  constructor
  · exact fun h => h.2
  · intro h
    refine ⟨?_, h⟩
    rw [← e] at h
    obtain ⟨j, hj⟩ := Int.dvd_of_emod_eq_zero h
    generalize (a - b) % s = r at *
    by_cases hj0 : 0 ≤ j
    · have := Int.mul_nonneg (show 0 ≤ s by omega) hj0
      omega
    · have := Int.mul_le_mul_of_nonneg_left (show j ≤ -1 by omega) (show 0 ≤ s by omega)
      omega
theorem whU_size {u t : Int} (hz : 0 < sizeU u) : whU u t = t / sizeU u := by
  rcases unit_cases u with rfl | rfl | rfl | ⟨h0, h1, h2, h⟩
  · rw [show sizeU 0 = 1 from rfl, Int.ediv_one]; rfl
  · rfl
  · rfl
  · omega
theorem sizeU_of {u : Int} (hz : 0 < sizeU u) : sizeU u = 1 ∨ sizeU u = 60 ∨ sizeU u = 3600 := by
  rcases unit_cases u with rfl | rfl | rfl | ⟨h0, h1, h2, h⟩
  · exact .inl rfl
  · exact .inr (.inl rfl)
  · exact .inr (.inr rfl)
  · omega
theorem okS_on {c : Cl} (hm : mayC c = true) (hz : 0 < sizeU c.unit) {n : Int} {k : Nat} (h0 : 0 ≤ n) (h1 : n < 146097) (hk : k < 86400) : okS c (phaseC c n) k = onB c.unit c.step c.anchor (86400 * n + k) := by
  obtain ⟨-, hs, hu, ha⟩ := may_ord hm
  obtain ⟨e1, e2⟩ := which_yes hu ha
  obtain ⟨e3, e4⟩ := which_yes hu (win_of (t := 86400 * n + k) (by omega) (by omega))
  rw [onB, e1, e3, e4, stepB, decide_eq_true hs, whU_size hz, okS, phaseC]
  obtain ⟨A, hA⟩ : ∃ A, whichI c.unit c.anchor = A := ⟨_, rfl⟩
  rw [hA]
  have hd : (86400 * n + (k : Int)) / sizeU c.unit = 86400 * n / sizeU c.unit + (k : Int) / sizeU c.unit := by
    rcases sizeU_of hz with h | h | h <;> rw [h] <;> omega
  have hx : 0 ≤ (k : Int) / sizeU c.unit := by
    rcases sizeU_of hz with h | h | h <;> rw [h] <;> omega
  rw [hd]
  obtain ⟨B, hB⟩ : ∃ B, 86400 * n / sizeU c.unit = B := ⟨_, rfl⟩
  obtain ⟨X, hX⟩ : ∃ X, (k : Int) / sizeU c.unit = X := ⟨_, rfl⟩
  rw [hB, hX]
  rw [hX] at hx
  by_cases h1s : 1 < c.step
  · rw [if_pos (show 1 < c.step ∧ 0 < sizeU c.unit from ⟨h1s, hz⟩), if_pos ⟨hz, .inl h1s⟩, phase_mod hs hx]; simp
  · have e : c.step = 1 := by omega
    rw [if_neg (show ¬ (1 < c.step ∧ 0 < sizeU c.unit) by omega), if_neg (by omega), e]; simp
/-- the state's parts -/
def sF (c : Cl) (n : Int) : Int := if liveD c n then stF c n else 0
def sU (c : Cl) (n : Int) : Int := if liveD c n then stU c n else 0
def sP (c : Cl) (n : Int) : Int := if liveD c n then phaseC c n else 0
theorem stG_parts (c : Cl) (n : Int) : stG c n = stv (liveD c n) (sF c n) (sU c n) (sP c n) := by
  rw [stG, sF, sU, sP]
  cases liveD c n <;> rfl
theorem phase_nn {c : Cl} (hm : mayC c = true) (n : Int) : 0 ≤ phaseC c n := by
  obtain ⟨-, hs, -, -⟩ := may_ord hm
  rw [phaseC]
  split
  · exact Int.emod_nonneg _ (by omega)
  · omega
theorem live_may {c : Cl} {n : Int} (h : liveD c n = true) : mayC c = true ∧ heldB c.fr c.un = true ∧ dayC c n = true ∧ frD c ≤ n ∧ n ≤ unD c := by
  simp only [liveD, okD, onD, Bool.and_eq_true, decide_eq_true_eq] at h
  exact ⟨h.1.2, h.1.1, h.2.2.2, h.2.1, h.2.2.1⟩
theorem bet_live {c : Cl} {n : Int} {k : Nat} (h0 : 0 ≤ n) (h1 : n < 146097) (hk : k < 86400) : betB (stF c n) (stU c n) k = betB c.fr c.un (86400 * n + k) := by
  have e1 : stF c n ≤ (k : Int) ↔ c.fr ≤ 86400 * n + k := by unfold stF; constructor <;> intro h <;> omega
  have e2 : (k : Int) ≤ stU c n ↔ 86400 * n + k ≤ c.un := by unfold stU; constructor <;> intro h <;> omega
  rw [betB, betB, Bool.eq_iff_iff]
  simp only [Bool.and_eq_true, decide_eq_true_eq]
  rw [e1, e2]
theorem bet_days {c : Cl} {n : Int} {k : Nat} (h0 : 0 ≤ n) (h1 : n < 146097) (hk : k < 86400) (h : betB c.fr c.un (86400 * n + k) = true) : heldB c.fr c.un = true ∧ frD c ≤ n ∧ n ≤ unD c := by
  rw [betB] at h
  simp only [Bool.and_eq_true, decide_eq_true_eq] at h
  have hB : heldB c.fr c.un = true := decide_eq_true (by omega)
  obtain ⟨e1, e2, e3⟩ := lap_days hB
  refine ⟨hB, ?_, ?_⟩
  · rw [e1]; omega
  · rw [e2]; omega
theorem secQ_has (c : Cl) {n : Int} {k : Nat} (h0 : 0 ≤ n) (h1 : n < 146097) (hk : k < 86400) : secQ c (liveD c n) (sF c n) (sU c n) (sP c n) k = hasC c (86400 * n + k) := by
  have hw : winB (86400 * n + k) = true := win_of (by omega) (by omega)
  rw [secQ, hasC, hw, Bool.true_and, show (86400 * n + (k : Int)) % 86400 = k by omega, show (86400 * n + (k : Int)) / 86400 = n by omega]
  cases hl : liveD c n
  · rw [Bool.false_and]
    cases hb : betB c.fr c.un (86400 * n + k)
    · simp
    · obtain ⟨g1, g2, g3⟩ := bet_days h0 h1 hk hb
      have : (mayC c && dayC c n) = false := by
        rw [liveD, okD, onD, g1, decide_eq_true g2, decide_eq_true g3] at hl; simpa using hl
      rcases Bool.and_eq_false_iff.1 this with h | h <;> rw [h] <;> simp
  · obtain ⟨hm, hB, hd, g1, g2⟩ := live_may hl
    obtain ⟨-, hs, hu, ha⟩ := may_ord hm
    rw [sF, sU, sP, hl, if_pos rfl, if_pos rfl, if_pos rfl, bet_live h0 h1 hk, hm, hd, decide_eq_true (phase_nn hm n), Bool.and_true]
    have : okS c (phaseC c n) k = onB c.unit c.step c.anchor (86400 * n + k) := by
      rcases sizeU_cases c.unit with hz | hz
      · exact okS_on hm hz h0 h1 hk
      · have e := dayOn_on (t := 86400 * n + k) hu ha hs (by omega) (by omega) hz
        rw [show (86400 * n + (k : Int)) / 86400 = n by omega] at e
        rw [dayC, hm, Bool.true_and, Bool.and_eq_true] at hd
        rw [← e, hd.2, okS, if_neg (by omega)]
    rw [this]
    simp only [Bool.true_and]
    cases betB c.fr c.un (86400 * n + k) <;> cases todIn k (c.m 2) (c.m 1) (c.m 0) <;> simp
/-- the seconds of a day of a set -/
def dayQ (cs : List Cl) (n : Int) (k : Nat) : Bool := cs.any fun c => hasC c (86400 * n + k)
end Go.Proofs.YtbfjceegfpddkaaGreatDoor
namespace Go.Proofs.YtbfjceegfpddkaaGreatDoor
open Go.RowKit
set_option linter.unusedVariables false

attribute [local go_sem ↓] loadAt_cl
/-- what On reads and writes -/
abbrev OnS (w : World) (c : Cl) (s : Nat → Int) (W : World) : Prop := DyS w c s W ∧ w.heap.size + 1 + 1 < W.heap.size
theorem OnS.keep {w W W' : World} {c : Cl} {s : Nat → Int} (h : OnS w c s W) (hb : Below W.heap.size W W') : OnS w c s W' := ⟨h.1.keep hb, Nat.lt_of_lt_of_le h.2 hb.size⟩
theorem OnS.set {w W : World} {c : Cl} {s : Nat → Int} (h : OnS w c s W) (o : Nat) (v : Value) : OnS w c s (W.setCell ⟨w.heap.size + 1 + 1, o, none⟩ v) := by
  obtain ⟨⟨_, h1, h2, h3, h4⟩, h5⟩ := h
  have hb : Below (w.heap.size + 1 + 1) W (W.setCell ⟨w.heap.size + 1 + 1, o, none⟩ v) := below_set (Below.refl _ _) (Nat.le_refl _)
  have k := h1.below hb (by omega)
  have hs : (W.setCell ⟨w.heap.size + 1 + 1, o, none⟩ v).heap.size = W.heap.size := World.size_setCell _ _ _
  exact ⟨⟨k.ld, k, h2.below hb (by omega), h3.trans (hb.mono (by omega)), by rw [hs]; exact h4⟩, by rw [hs]; exact h5⟩
set_option maxRecDepth 100000 in
set_option maxHeartbeats 3200000 in
theorem LapOnG_any (c : Cl) (n : Int) (w : World) (hc : c.Ok) (h0 : 0 ≤ n) (h1 : n < 146097) :
    Calls Tryz.prog 10 #[clv c, shN n] w fun e w' => e = .returned (stG c n) ∧ Below w.heap.size w w' := by
  have cL : Hid (∀ W, OnS w c (shF n) W → Calls Tryz.prog 8 #[clv c] W fun e w' => (∃ y1 y2 y3 y4 y5 y6 : Nat, e = .returned (.func (.func 36) #[] #[.pointer (some ⟨y1, 0, none⟩), .pointer (some ⟨y2, 0, none⟩), .pointer (some ⟨y3, 0, none⟩), .pointer (some ⟨y4, 0, none⟩), .pointer (some ⟨y5, 0, none⟩), .pointer (some ⟨y6, 0, none⟩)]) ∧
      ∀ W', Below w'.heap.size w' W' → Calls Tryz.prog 36 #[shq (shF n), .pointer (some ⟨y1, 0, none⟩), .pointer (some ⟨y2, 0, none⟩), .pointer (some ⟨y3, 0, none⟩), .pointer (some ⟨y4, 0, none⟩), .pointer (some ⟨y5, 0, none⟩), .pointer (some ⟨y6, 0, none⟩)] W' fun e w'' => e = .returned (stG c n) ∧ Below W'.heap.size W' w'') ∧ OnS w c (shF n) w' ∧ Below W.heap.size W w') := fun W hS =>
    (LapsG_any c W hc).mono fun e w' ⟨⟨fv, he, hv⟩, hb⟩ => by
      obtain ⟨y1, y2, y3, y4, y5, y6, rfl, hC⟩ := hv.call hc h0 h1
      exact ⟨⟨y1, y2, y3, y4, y5, y6, he, fun W' hb2 => hC W' hb2.size (fun b _ h => hb2.block b h)⟩, hS.keep hb, hb⟩
  have hB0 : Below w.heap.size w ((w.alloc (.cells (clList c).toArray 28)).alloc (.cells (shList (shF n)).toArray 31)) := below_new (below_new (Below.refl _ _) (Nat.le_refl _)) (by simp)
  have hF : Four (((w.alloc (.cells (clList c).toArray 28)).alloc (.cells (shList (shF n)).toArray 31)).alloc (.cells #[.bool false, .int .i64 0, .int .i64 0, .int .i64 0] 36)).drew (w.heap.size + 1 + 1) (.bool false) (.int .i64 0) (.int .i64 0) (.int .i64 0) := by
    have h := four_new ((w.alloc (.cells (clList c).toArray 28)).alloc (.cells (shList (shF n)).toArray 31)) (.bool false) (.int .i64 0) (.int .i64 0) (.int .i64 0) 36
    simp only [World.size_alloc] at h
    exact h.below (Below.refl _ _).drew (Nat.lt_succ_self _)
  have hS0 : OnS w c (shF n) (((w.alloc (.cells (clList c).toArray 28)).alloc (.cells (shList (shF n)).toArray 31)).alloc (.cells #[.bool false, .int .i64 0, .int .i64 0, .int .i64 0] 36)).drew :=
    ⟨((daS_new w c (shF n) 28 31).dys.keep (below_new (Below.refl _ _) (Nat.le_refl _))).keep (Below.refl _ _).drew, by show _ < (World.alloc _ _).heap.size; simp⟩
  have HF := hid hF
  have HS0 := hid hS0
  clear hF hS0 hB0
  obtain ⟨a, f, u, p, hst⟩ : ∃ a f u p, stG c n = stv a f u p := by
    rw [stG]; split <;> exact ⟨_, _, _, _, rfl⟩
  rw [hst] at cL ⊢
  clear hst h0 h1 hc
  rw [← shq_shF]
  obtain ⟨s, hs⟩ : ∃ s, shF n = s := ⟨_, rfl⟩
  rw [hs] at cL HS0 HF ⊢
  clear hs
  rw [shq] at cL ⊢
  go_enter Tryz.func10, Tryz.ntmps10
  go_wp2_with fail
  refine wp_region_held_drew (S := fun w' => OnS w c s w') (by kernel_rfl) ?_ (fun hHeld => ?_)
  · exact HS0.out
  refine wpAnyH_take (i := 0) (v := ?_) rfl (by kernel_rfl) (by kernel_rfl) (by kernel_rfl) (fun _ _ _ h => h) (Or.inl ⟨by rfl, ?_⟩) (by assumption) ?_
  rotate_left
  · intro w hSw; (try dsimp only [RMS] at hSw); go_simp; (try with_reducible rfl)
  (try simp only [Act.put, List.getElem_toArray, List.getElem_cons_zero, List.setIfInBounds_toArray, List.set_cons_zero, List.set_cons_succ])
  refine wpAnyH_take (i := 2) (v := ?_) rfl (by kernel_rfl) (by kernel_rfl) (by kernel_rfl) (fun _ _ _ h => h) (Or.inl ⟨by rfl, ?_⟩) (by assumption) ?_
  rotate_left
  · intro w hSw; (try dsimp only [RMS] at hSw); go_simp; (try with_reducible rfl)
  (try simp only [Act.put, List.getElem_toArray, List.getElem_cons_succ, List.getElem_cons_zero, List.setIfInBounds_toArray, List.set_cons_zero, List.set_cons_succ])
  refine wpAnyH_ready (rs := [1]) (by kernel_rfl) (by simp) ?_
  refine AllReadyH.cons rfl (fun K hK => ?_) AllReadyH.nil
  go_simp
  refine (cL.out _ (by assumption)).mono ?_
  rintro e w1 ⟨⟨y1, y2, y3, y4, y5, y6, rfl, hC⟩, hS, hB⟩
  have HC := hid hC
  have HF1 := hid (HF.out.below hB hHeld.2)
  clear hC hB
  (try go_wp2_with fail)
  refine hK.out _ _ (by assumption) (fun hHeld => ?_)
  clear hK K
  (try simp only [Act.put, List.getElem_toArray, List.getElem_cons_succ, List.getElem_cons_zero, List.setIfInBounds_toArray, List.set_cons_zero, List.set_cons_succ])
  refine wpAnyH_ready (rs := [3]) (by kernel_rfl) (by simp) ?_
  refine AllReadyH.cons rfl (fun K hK => ?_) AllReadyH.nil
  go_simp
  refine (HC.out _ (Below.refl _ _)).mono ?_
  rintro e w2 ⟨rfl, hB2⟩
  have hS2 := OnS.keep hHeld hB2
  have HF2 := hid (HF1.out.below hB2 hHeld.2)
  clear hB2
  (try go_wp2_with fail)
  refine hK.out _ _ hS2 (fun hHeld => ?_)
  clear hK K
  (try simp only [Act.put, List.getElem_toArray, List.getElem_cons_succ, List.getElem_cons_zero, List.setIfInBounds_toArray, List.set_cons_zero, List.set_cons_succ])
  obtain ⟨⟨a0, a1, a2, a3⟩, f0, f1, f2, f3⟩ := HF2.out
  refine wpAnyH_ready (rs := [4]) (by kernel_rfl) (by simp) ?_
  refine AllReadyH.cons rfl (fun K hK => ?_) AllReadyH.nil
  go_simp
  (try go_wp2_with fail)
  refine hK.out _ _ ((((hHeld.set 0 _).set 1 _).set 2 _).set 3 _) (fun hHeld => ?_)
  clear hK K
  (try simp only [Act.put, List.getElem_toArray, List.getElem_cons_succ, List.getElem_cons_zero, List.setIfInBounds_toArray, List.set_cons_zero, List.set_cons_succ])
  refine wpAnyH_done (by kernel_rfl) ?_ _
  go_wp2
  exact bodyPost_ret (results_cell_mid rfl _ _ (w.heap.size + 1 + 1) 0 _ _ rfl (HF2.out.put _ _ _ _) Tryz.underlying36 rfl infoSt) rfl ⟨rfl, (by assumption : OnS w c s _).1.2.2.2.1⟩
end Go.Proofs.YtbfjceegfpddkaaGreatDoor
namespace Go.Proofs.YtbfjceegfpddkaaGreatDoor
open Go.RowKit
set_option linter.unusedVariables false

attribute [local go_sem ↓] loadAt_cl
theorem live_cut {c : Cl} {n : Int} (h : liveD c n = true) (h0 : 0 ≤ n) (h1 : n < 146097) :
    heldF (mtF [(c.fr, c.un), (86400 * n, 86400 * n + 86399)]) (mtU [(c.fr, c.un), (86400 * n, 86400 * n + 86399)]) = stF c n + 86400 * n ∧ heldU (mtF [(c.fr, c.un), (86400 * n, 86400 * n + 86399)]) (mtU [(c.fr, c.un), (86400 * n, 86400 * n + 86399)]) = stU c n + 86400 * n := by
  obtain ⟨-, hB, -, g1, g2⟩ := live_may h
  have hc := cut_some hB g1 g2
  have eF : mtF [(c.fr, c.un), (86400 * n, 86400 * n + 86399)] = max (max 0 c.fr) (86400 * n) := rfl
  have eU : mtU [(c.fr, c.un), (86400 * n, 86400 * n + 86399)] = min (min 12622780799 c.un) (86400 * n + 86399) := rfl
  rw [eF, eU]
  have hb : heldB (max (max 0 c.fr) (86400 * n)) (min (min 12622780799 c.un) (86400 * n + 86399)) = true := decide_eq_true (by omega)
  rw [heldF, heldU, hb, if_pos rfl, if_pos rfl, stF, stU]
  constructor <;> omega
theorem st_bd {c : Cl} {n : Int} (h : liveD c n = true) (h0 : 0 ≤ n) (h1 : n < 146097) : 0 ≤ stF c n ∧ stF c n ≤ 86399 ∧ 0 ≤ stU c n ∧ stU c n ≤ 86399 := by
  obtain ⟨-, hB, -, g1, g2⟩ := live_may h
  have hc := cut_some hB g1 g2
  rw [stF, stU]
  omega
/-- Go's remainder, made not negative -/
theorem tmod_up {d s : Int} (hs : 1 ≤ s) : (d.tmod s < 0 → d.tmod s + s = d % s) ∧ (¬ d.tmod s < 0 → d.tmod s = d % s) := by
  have h := @Int.tmod_eq_emod d s
  have e0 := Int.emod_nonneg d (show s ≠ 0 by omega)
  have e1 := Int.emod_lt_of_pos d (show 0 < s by omega)
  by_cases hc : 0 ≤ d ∨ s ∣ d
  · rw [if_pos hc] at h
    constructor <;> intro hl <;> omega
  · rw [if_neg hc] at h
    constructor <;> intro hl <;> omega
theorem state_phase {c : Cl} (hm : mayC c = true) (n : Int) : (0 < sizeU c.unit → (whU c.unit c.anchor - 86400 * n / sizeU c.unit) % c.step = phaseC c n) ∧ (¬ 0 < sizeU c.unit → phaseC c n = 0) := by
  obtain ⟨-, hs, hu, ha⟩ := may_ord hm
  obtain ⟨e1, e2⟩ := which_yes hu ha
  rw [phaseC, e2]
  constructor
  · intro hz
    by_cases h1 : 1 < c.step
    · rw [if_pos ⟨h1, hz⟩]
    · rw [if_neg (by omega), show c.step = 1 by omega, Int.emod_one]
  · intro hz
    rw [if_neg (by omega)]
set_option maxRecDepth 100000 in
set_option maxHeartbeats 6400000 in
theorem State16_any (c : Cl) (n : Int) (w : World) (hc : c.Ok) (h0 : 0 ≤ n) (h1 : n < 146097) : Calls Tryz.prog 9 #[clv c, shN n] w fun e w' => e = .returned (stG c n) ∧ Below w.heap.size w w' := by
  obtain ⟨W0, hW0⟩ : ∃ W0, ((w.alloc (.cells (clList c).toArray 28)).alloc (.cells (shList (shF n)).toArray 31)).alloc (.cells #[.bool false, .int .i64 0, .int .i64 0, .int .i64 0] 36) = W0 := ⟨_, rfl⟩
  have hb0 := below_new (o := .cells #[.bool false, .int .i64 0, .int .i64 0, .int .i64 0] 36) (Below.refl _ ((w.alloc (.cells (clList c).toArray 28)).alloc (.cells (shList (shF n)).toArray 31))) (Nat.le_refl _)
  rw [hW0] at hb0
  have HD0 : Hid (DyS w c (shF n) W0) := (daS_new w c (shF n) 28 31).dys.keep hb0
  have HR0 : Hid (Four W0 (w.heap.size + 2) (.bool false) (.int .i64 0) (.int .i64 0) (.int .i64 0)) := by
    have h := four_new ((w.alloc (.cells (clList c).toArray 28)).alloc (.cells (shList (shF n)).toArray 31)) (.bool false) (.int .i64 0) (.int .i64 0) (.int .i64 0) 36
    rw [hW0] at h
    simp only [World.size_alloc] at h
    exact h
  have s0 : W0.heap.size = w.heap.size + 3 := by rw [← hW0]; simp
  have HW0 := hid hW0
  have S0 := hid s0
  have cL := hid (fun W => RLive_any c n W hc h0 h1)
  have cM : Hid (∀ W, Calls Tryz.prog 41 #[.slice (some ⟨W.heap.size, 0, none⟩) 2 2] (W.alloc (.cells #[.int .i64 c.fr, .int .i64 c.un, .int .i64 (86400 * n), .int .i64 (86400 * n + 86399)] 85)) fun e w' =>
      e = .returned (spv (heldF (mtF [(c.fr, c.un), (86400 * n, 86400 * n + 86399)]) (mtU [(c.fr, c.un), (86400 * n, 86400 * n + 86399)])) (heldU (mtF [(c.fr, c.un), (86400 * n, 86400 * n + 86399)]) (mtU [(c.fr, c.un), (86400 * n, 86400 * n + 86399)]))) ∧ Below W.heap.size W w') := fun W => by
    refine (RMeet9_any (some ⟨W.heap.size, 0, none⟩) 2 [(c.fr, c.un), (86400 * n, 86400 * n + 86399)] _ (by simp) (sl_range (range_new W _ _) (by simp))).mono ?_
    rintro e w' ⟨he, hb⟩
    exact ⟨he, (below_new (Below.refl _ _) (Nat.le_refl _)).trans (hb.mono (by simp))⟩
  have cZ := hid (fun W => RSize_any c.unit W)
  have hn : shF n 0 = n := rfl
  have hstep := hc.step.2
  clear hW0 hc s0 hb0
  cases hl : liveD c n
  · rw [hl] at cL
    rw [stG, hl]
    clear hl cM cZ
    rw [← shq_shF] at cL ⊢
    obtain ⟨s, hs⟩ : ∃ s, shF n = s := ⟨_, rfl⟩
    rw [hs] at HD0 HW0 cL ⊢
    clear hs hn
    rw [shq] at cL ⊢
    have gl := HD0.out.1
    obtain ⟨q0, q1, q2, q3, q4, q5, q6, q7, q8, q9⟩ := HD0.out.2.2.1
    go_enter Tryz.func9, Tryz.ntmps9
    go_upto_region 1 with fail
    rw [HW0.out]
    go_wp2_with fail
    refine (cL.out _).mono ?_
    rintro e w1 ⟨rfl, hB1⟩
    have HR1 := hid (HR0.out.below hB1 (by have := S0.out; omega))
    have HB1 := hid (HD0.out.2.2.2.1.trans (hB1.mono HD0.out.2.2.2.1.size))
    clear hB1 gl q0 q1 q2 q3 q4 q5 q6 q7 q8 q9
    obtain ⟨⟨a0, a1, a2, a3⟩, f0, f1, f2, f3⟩ := HR1.out
    go_wp2
    exact bodyPost_ret (results_cell_mid rfl _ _ (w.heap.size + 2) 0 _ _ rfl (HR1.out.put _ _ _ _) Tryz.underlying36 rfl infoSt) rfl ⟨rfl, below_set (below_set (below_set (below_set HB1.out (by omega)) (by omega)) (by omega)) (by omega)⟩
  · rw [hl] at cL
    obtain ⟨m1, m2⟩ := live_cut hl h0 h1
    rw [m1, m2] at cM
    have bd := st_bd hl h0 h1
    obtain ⟨hm, -, -, -, -⟩ := live_may hl
    obtain ⟨-, hst, hu, ha⟩ := may_ord hm
    have hu2 := unit_range hu
    have ha2 : 0 ≤ c.anchor ∧ c.anchor < 12622780800 := by simpa only [winB, decide_eq_true_eq] using ha
    have cW := hid (fun W => RUWhich_yes c.unit c.anchor W hu2.1 hu2.2 ha2.1 ha2.2)
    obtain ⟨p1, p2⟩ := state_phase hm n
    have hwb := whU_bd (u := c.unit) ha2.1 ha2.2
    rw [stG, hl, if_pos rfl]
    obtain ⟨f, hf⟩ : ∃ f, stF c n = f := ⟨_, rfl⟩
    obtain ⟨u, hu'⟩ : ∃ u, stU c n = u := ⟨_, rfl⟩
    obtain ⟨p, hp⟩ : ∃ p, phaseC c n = p := ⟨_, rfl⟩
    obtain ⟨A, hA⟩ : ∃ A, whU c.unit c.anchor = A := ⟨_, rfl⟩
    have hzc := sizeU_cases c.unit
    have hzo : 0 < sizeU c.unit → sizeU c.unit = 1 ∨ sizeU c.unit = 60 ∨ sizeU c.unit = 3600 := fun h => sizeU_of h
    obtain ⟨z, hz⟩ : ∃ z, sizeU c.unit = z := ⟨_, rfl⟩
    rw [hf, hu'] at cM bd
    rw [hf, hu', hp]
    rw [hA, hz, hp] at p1
    rw [hz, hp] at p2
    rw [hA] at cW hwb
    rw [hz] at cZ hzc hzo
    have P1 := hid p1
    have P2 := hid p2
    have HZ := hid hzo
    clear hl hf hu' hp hA hz hm m1 m2 p1 p2 hu ha hzo
    rw [← shq_shF] at cL ⊢
    obtain ⟨s, hs⟩ : ∃ s, shF n = s := ⟨_, rfl⟩
    rw [hs] at HD0 HW0 cL hn ⊢
    rw [← hn] at cM P1 h0 h1
    clear hs hn
    rw [shq] at cL ⊢
    have gl := HD0.out.1
    obtain ⟨q0, q1, q2, q3, q4, q5, q6, q7, q8, q9⟩ := HD0.out.2.2.1
    go_enter Tryz.func9, Tryz.ntmps9
    go_upto_region 1 with fail
    rw [HW0.out]
    go_wp2_with fail
    refine (cL.out _).mono ?_
    rintro e w1 ⟨rfl, hB1⟩
    have HR1 := hid (HR0.out.below hB1 (by have := S0.out; omega))
    have HD1 := hid (HD0.out.keep hB1)
    have S1 : Hid (w.heap.size + 3 ≤ w1.heap.size) := by show _ ≤ _; have := S0.out; have := hB1.size; omega
    clear hB1 gl q0 q1 q2 q3 q4 q5 q6 q7 q8 q9 HR0 HD0
    obtain ⟨q0, -, -, -, -, -, -, -, -, -⟩ := HD1.out.2.2.1
    obtain ⟨-, -, -, t3, t4⟩ := HD1.out.2.1.tail
    go_wp2_with fail
    refine (cM.out w1).mono ?_
    rintro e w2 ⟨rfl, hB2⟩
    have hbA := below_new (o := .cells #[.int .i64 (f + 86400 * s 0), .int .i64 (u + 86400 * s 0)] 85) (Below.refl w2.heap.size w2) (Nat.le_refl _)
    have hB3 := hB2.trans (hbA.mono hB2.size)
    obtain ⟨W3, hW3⟩ : ∃ W, w2.alloc (.cells #[.int .i64 (f + 86400 * s 0), .int .i64 (u + 86400 * s 0)] 85) = W := ⟨_, rfl⟩
    have k1 : W3.cell? ⟨w2.heap.size, 0, none⟩ = some (.int .i64 (f + 86400 * s 0)) := by rw [← hW3]; simp [go_sem]
    have k2 : W3.cell? ⟨w2.heap.size, 1, none⟩ = some (.int .i64 (u + 86400 * s 0)) := by rw [← hW3]; simp [go_sem]
    rw [hW3] at hB3
    have HR3 := hid (HR1.out.below hB3 (by have := S1.out; omega))
    have HD3 := hid (HD1.out.keep hB3)
    have S3 : Hid (w.heap.size + 3 ≤ W3.heap.size) := Nat.le_trans S1.out hB3.size
    have HW3 := hid hW3
    clear hB2 hbA hB3 hW3 t3 t4 q0 HR1 HD1
    go_upto_region 5 with fail
    rw [HW3.out]
    have hb4 := below_new (o := .cells #[.bool true, .int .i64 f, .int .i64 u, .int .i64 0] 36) (Below.refl W3.heap.size W3) (Nat.le_refl _)
    obtain ⟨W4, hW4⟩ : ∃ W, W3.alloc (.cells #[.bool true, .int .i64 f, .int .i64 u, .int .i64 0] 36) = W := ⟨_, rfl⟩
    have hX4 := four_new W3 (.bool true) (.int .i64 f) (.int .i64 u) (.int .i64 0) 36
    rw [hW4] at hX4 hb4
    have HX4 := hid hX4
    have HR4 := hid (HR3.out.below hb4 (by have := S3.out; omega))
    have HD4 := hid (HD3.out.keep hb4)
    have S4 : Hid (w.heap.size + 3 ≤ W3.heap.size ∧ W3.heap.size < W4.heap.size) := ⟨S3.out, by rw [← hW4]; simp⟩
    have HW4 := hid hW4
    clear hb4 hX4 hW4 HR3 HD3
    have e1 : f + 86400 * s 0 - 86400 * s 0 = f := by omega
    have e2 : u + 86400 * s 0 - 86400 * s 0 = u := by omega
    go_upto_region 6 with fail
    (try rw [HW4.out])
    clear k1 k2 e1 e2
    obtain ⟨t0, t1, t2, -, -⟩ := HD4.out.2.1.tail
    go_wp2_with fail
    refine (cZ.out _).mono ?_
    rintro e w5 ⟨rfl, rfl⟩
    rcases hzc with hz | rfl
    · rcases HZ.out hz with rfl | rfl | rfl
      · have hp1 : (A - 86400 * s 0) % c.step = p := by
          have h := P1.out hz
          rw [Int.ediv_one] at h
          exact h
        have hw1 : -9223372036854775808 ≤ A - 86400 * s 0 ∧ A - 86400 * s 0 ≤ 9223372036854775807 := by omega
        have hup := tmod_up (d := A - 86400 * s 0) (s := c.step) hst
        have hp2 : 0 ≤ p ∧ p < c.step := by rw [← hp1]; exact ⟨Int.emod_nonneg _ (by omega), Int.emod_lt_of_pos _ (by omega)⟩
        rw [hp1] at hup
        have HUP := hid hup
        clear hup hp1
        go_upto_region 8 with fail
        go_quiet (first | (go_at_call 43; with_reducible refine (cW.out _).mono ?_; exact fun _ _ h => ⟨h.1, _, h.2.symm⟩))
        obtain ⟨⟨x0, x1, x2, x3⟩, y0, y1, y2, y3⟩ := HX4.out
        obtain ⟨⟨a0, a1, a2, a3⟩, f0, f1, f2, f3⟩ := HR4.out
        have l4 := S4.out
        by_cases hneg : (A - 86400 * s 0).tmod c.step < 0
        · have hv := HUP.out.1 hneg
          have hb1 : -9223372036854775808 ≤ (A - 86400 * s 0).tmod c.step + c.step ∧ (A - 86400 * s 0).tmod c.step + c.step ≤ 9223372036854775807 := by omega
          have Hv := hid hv
          clear hv
          go_wp2
          exact bodyPost_ret (results_cell_mid rfl _ _ (w.heap.size + 2) 0 _ _ rfl ((HR4.out.below (below_set (below_set (below_drewN (Below.refl W3.heap.size W4) _) (Nat.le_refl _)) (Nat.le_refl _)) (by omega)).put _ _ _ _) Tryz.underlying36 rfl infoSt) rfl
            ⟨by rw [Hv.out], below_set (below_set (below_set (below_set (below_set (below_set (below_drewN HD4.out.2.2.2.1 _) (by omega)) (by omega)) (by omega)) (by omega)) (by omega)) (by omega)⟩
        · have hv := HUP.out.2 (Int.not_lt.mp hneg)
          have Hv := hid hv
          clear hv
          go_wp2
          exact bodyPost_ret (results_cell_mid rfl _ _ (w.heap.size + 2) 0 _ _ rfl ((HR4.out.below (below_set (below_drewN (Below.refl W3.heap.size W4) _) (Nat.le_refl _)) (by omega)).put _ _ _ _) Tryz.underlying36 rfl infoSt) rfl
            ⟨by rw [Hv.out], below_set (below_set (below_set (below_set (below_set (below_drewN HD4.out.2.2.2.1 _) (by omega)) (by omega)) (by omega)) (by omega)) (by omega)⟩
      · have hp1 : (A - 86400 * s 0 / 60) % c.step = p := by
          have h := P1.out hz
          exact h
        have hw1 : -9223372036854775808 ≤ A - 86400 * s 0 / 60 ∧ A - 86400 * s 0 / 60 ≤ 9223372036854775807 := by omega
        have hup := tmod_up (d := A - 86400 * s 0 / 60) (s := c.step) hst
        have hp2 : 0 ≤ p ∧ p < c.step := by rw [← hp1]; exact ⟨Int.emod_nonneg _ (by omega), Int.emod_lt_of_pos _ (by omega)⟩
        rw [hp1] at hup
        have HUP := hid hup
        clear hup hp1
        go_upto_region 8 with fail
        go_quiet (first | (go_at_call 43; with_reducible refine (cW.out _).mono ?_; exact fun _ _ h => ⟨h.1, _, h.2.symm⟩))
        obtain ⟨⟨x0, x1, x2, x3⟩, y0, y1, y2, y3⟩ := HX4.out
        obtain ⟨⟨a0, a1, a2, a3⟩, f0, f1, f2, f3⟩ := HR4.out
        have l4 := S4.out
        by_cases hneg : (A - 86400 * s 0 / 60).tmod c.step < 0
        · have hv := HUP.out.1 hneg
          have hb1 : -9223372036854775808 ≤ (A - 86400 * s 0 / 60).tmod c.step + c.step ∧ (A - 86400 * s 0 / 60).tmod c.step + c.step ≤ 9223372036854775807 := by omega
          have Hv := hid hv
          clear hv
          go_wp2
          exact bodyPost_ret (results_cell_mid rfl _ _ (w.heap.size + 2) 0 _ _ rfl ((HR4.out.below (below_set (below_set (below_drewN (Below.refl W3.heap.size W4) _) (Nat.le_refl _)) (Nat.le_refl _)) (by omega)).put _ _ _ _) Tryz.underlying36 rfl infoSt) rfl
            ⟨by rw [Hv.out], below_set (below_set (below_set (below_set (below_set (below_set (below_drewN HD4.out.2.2.2.1 _) (by omega)) (by omega)) (by omega)) (by omega)) (by omega)) (by omega)⟩
        · have hv := HUP.out.2 (Int.not_lt.mp hneg)
          have Hv := hid hv
          clear hv
          go_wp2
          exact bodyPost_ret (results_cell_mid rfl _ _ (w.heap.size + 2) 0 _ _ rfl ((HR4.out.below (below_set (below_drewN (Below.refl W3.heap.size W4) _) (Nat.le_refl _)) (by omega)).put _ _ _ _) Tryz.underlying36 rfl infoSt) rfl
            ⟨by rw [Hv.out], below_set (below_set (below_set (below_set (below_set (below_drewN HD4.out.2.2.2.1 _) (by omega)) (by omega)) (by omega)) (by omega)) (by omega)⟩
      · have hp1 : (A - 86400 * s 0 / 3600) % c.step = p := by
          have h := P1.out hz
          exact h
        have hw1 : -9223372036854775808 ≤ A - 86400 * s 0 / 3600 ∧ A - 86400 * s 0 / 3600 ≤ 9223372036854775807 := by omega
        have hup := tmod_up (d := A - 86400 * s 0 / 3600) (s := c.step) hst
        have hp2 : 0 ≤ p ∧ p < c.step := by rw [← hp1]; exact ⟨Int.emod_nonneg _ (by omega), Int.emod_lt_of_pos _ (by omega)⟩
        rw [hp1] at hup
        have HUP := hid hup
        clear hup hp1
        go_upto_region 8 with fail
        go_quiet (first | (go_at_call 43; with_reducible refine (cW.out _).mono ?_; exact fun _ _ h => ⟨h.1, _, h.2.symm⟩))
        obtain ⟨⟨x0, x1, x2, x3⟩, y0, y1, y2, y3⟩ := HX4.out
        obtain ⟨⟨a0, a1, a2, a3⟩, f0, f1, f2, f3⟩ := HR4.out
        have l4 := S4.out
        by_cases hneg : (A - 86400 * s 0 / 3600).tmod c.step < 0
        · have hv := HUP.out.1 hneg
          have hb1 : -9223372036854775808 ≤ (A - 86400 * s 0 / 3600).tmod c.step + c.step ∧ (A - 86400 * s 0 / 3600).tmod c.step + c.step ≤ 9223372036854775807 := by omega
          have Hv := hid hv
          clear hv
          go_wp2
          exact bodyPost_ret (results_cell_mid rfl _ _ (w.heap.size + 2) 0 _ _ rfl ((HR4.out.below (below_set (below_set (below_drewN (Below.refl W3.heap.size W4) _) (Nat.le_refl _)) (Nat.le_refl _)) (by omega)).put _ _ _ _) Tryz.underlying36 rfl infoSt) rfl
            ⟨by rw [Hv.out], below_set (below_set (below_set (below_set (below_set (below_set (below_drewN HD4.out.2.2.2.1 _) (by omega)) (by omega)) (by omega)) (by omega)) (by omega)) (by omega)⟩
        · have hv := HUP.out.2 (Int.not_lt.mp hneg)
          have Hv := hid hv
          clear hv
          go_wp2
          exact bodyPost_ret (results_cell_mid rfl _ _ (w.heap.size + 2) 0 _ _ rfl ((HR4.out.below (below_set (below_drewN (Below.refl W3.heap.size W4) _) (Nat.le_refl _)) (by omega)).put _ _ _ _) Tryz.underlying36 rfl infoSt) rfl
            ⟨by rw [Hv.out], below_set (below_set (below_set (below_set (below_set (below_drewN HD4.out.2.2.2.1 _) (by omega)) (by omega)) (by omega)) (by omega)) (by omega)⟩
    · have hp0 : Hid (p = 0) := P2.out (by omega)
      obtain ⟨⟨x0, x1, x2, x3⟩, y0, y1, y2, y3⟩ := HX4.out
      obtain ⟨⟨a0, a1, a2, a3⟩, f0, f1, f2, f3⟩ := HR4.out
      have l4 := S4.out.1
      go_wp2
      rw [hp0.out]
      exact bodyPost_ret (results_cell_mid rfl _ _ (w.heap.size + 2) 0 _ _ rfl (HR4.out.put _ _ _ _) Tryz.underlying36 rfl infoSt) rfl ⟨rfl, below_set (below_set (below_set (below_set HD4.out.2.2.2.1 (by omega)) (by omega)) (by omega)) (by omega)⟩
end Go.Proofs.YtbfjceegfpddkaaGreatDoor
namespace Go.Proofs.YtbfjceegfpddkaaGreatDoor
open Go.RowKit
set_option linter.unusedVariables false

theorem rep_one {α : Type} (v : α) : [v] = List.replicate 1 v := rfl
theorem rep_cons {α : Type} (v : α) (n : Nat) : v :: List.replicate n v = List.replicate (n + 1) v := rfl
theorem rep_app {α : Type} (v : α) (n m : Nat) : (List.replicate n v).append (List.replicate m v) = List.replicate (n + m) v := List.replicate_append_replicate
set_option maxRecDepth 100000 in
theorem zc104 : Tryz.zeroCells162 = (List.replicate 86400 (Value.bool false)).toArray := by
  simp only [Tryz.zeroCells162, rep_one, rep_cons, rep_app, Nat.reduceAdd]
set_option maxRecDepth 100000 in
theorem zc107 : Tryz.zeroCells111 = (List.replicate 1350 (Value.int .u64 0)).toArray := by
  simp only [Tryz.zeroCells111, rep_one, rep_cons, rep_app, Nat.reduceAdd]
set_option maxRecDepth 100000 in
theorem zcw : Tryz.zeroCells108 = (List.replicate 1350 (Value.int .u64 0)).toArray := by
  simp only [Tryz.zeroCells108, rep_one, rep_cons, rep_app, Nat.reduceAdd]
theorem zne104 : ¬ Tryz.zeroCells162 = #[] := fun h => by
  have := congrArg Array.size (zc104.symm.trans h)
  rw [List.size_toArray, List.length_replicate] at this
  exact absurd this (by decide)
theorem zne107 : ¬ Tryz.zeroCells111 = #[] := fun h => by
  have := congrArg Array.size (zc107.symm.trans h)
  rw [List.size_toArray, List.length_replicate] at this
  exact absurd this (by decide)
theorem znew : ¬ Tryz.zeroCells108 = #[] := fun h => by
  have := congrArg Array.size (zcw.symm.trans h)
  rw [List.size_toArray, List.length_replicate] at this
  exact absurd this (by decide)

/-- a disc's words, in a block -/
def DC (W : World) (b : Nat) (f : Nat → Nat) : Prop := ∀ i, i < 1350 → W.cell? ⟨b, i, none⟩ = some (.int .u64 (f i : Nat))
theorem DC.below {W W' : World} {b B : Nat} {f : Nat → Nat} (h : DC W b f) (hb : Below B W W') (hB : b < B) : DC W' b f := fun i hi => (hb.cell (p := ⟨b, i, none⟩) hB).trans (h i hi)
theorem DC.set {W : World} {b i : Nat} {f : Nat → Nat} {v : Nat} (h : DC W b f) (hi : i < 1350) : DC (W.setCell ⟨b, i, none⟩ (.int .u64 v)) b (fun j => if j = i then v else f j) := by
  intro j hj
  by_cases e : j = i
  · subst e; simp [go_sem, h j hj]
  · simp [go_sem, h j hj, e]
theorem DC.congr {W : World} {b : Nat} {f g : Nat → Nat} (h : DC W b f) (e : ∀ i, i < 1350 → f i = g i) : DC W b g := fun i hi => by rw [← e i hi]; exact h i hi
theorem cell_rep (W : World) (n : Nat) (v : Value) (t : TypeId) (i : Nat) (hi : i < n) : (W.alloc (.cells (List.replicate n v).toArray t)).cell? ⟨W.heap.size, i, none⟩ = some v := by simp [go_sem, hi]
theorem dc_new (W : World) : DC (W.alloc (.cells Tryz.zeroCells111 111)) W.heap.size (fun _ => 0) := fun i hi => by
  rw [zc107]
  exact cell_rep W 1350 _ _ i hi
def dsecB (n : Int) : Bool := decide (0 ≤ n) && decide (n < 86400)
theorem dsecB_nat (k : Nat) : dsecB (k : Int) = decide (k < 86400) := by rw [dsecB, Bool.eq_iff_iff]; simp only [Bool.and_eq_true, decide_eq_true_eq]; omega
theorem dsecB_some {n : Int} (h : dsecB n = true) : ∃ k : Nat, n = k ∧ k < 86400 := by
  rw [dsecB] at h
  simp only [Bool.and_eq_true, decide_eq_true_eq] at h
  exact ⟨n.toNat, by omega, by omega⟩
def hasD (f : Nat → Nat) (n : Int) : Bool := dsecB n && bitW f n.toNat
theorem DMay_any (n : Int) (w : World) : Calls Tryz.prog 86 #[.int .i64 n] w fun e w' => e = .returned (.bool (dsecB n)) ∧ w = w' := by
  unfold dsecB
  by_cases h0 : 0 ≤ n
  · by_cases h1 : n < 86400
    · rw [decide_eq_true h0, decide_eq_true h1]
      go_enter Tryz.func86, Tryz.ntmps86
      go_wp2
      go_ret
      exact ⟨rfl, rfl⟩
    · rw [decide_eq_true h0, decide_eq_false h1]
      go_enter Tryz.func86, Tryz.ntmps86
      go_wp2
      go_ret
      exact ⟨rfl, rfl⟩
  · rw [decide_eq_false h0, Bool.false_and]
    go_enter Tryz.func86, Tryz.ntmps86
    go_wp2
    go_ret
    exact ⟨rfl, rfl⟩

set_option maxHeartbeats 800000 in
theorem DHas_any (b : Nat) (f : Nat → Nat) (n : Int) (w : World) (hc : DC w b f) (hf : ∀ i, i < 1350 → f i < 18446744073709551616) :
    Calls Tryz.prog 45 #[.pointer (some ⟨b, 0, none⟩), .int .i64 n] w fun e w' => e = .returned (.bool (hasD f n)) ∧ w = w' := by
  have c1 := hid (fun W => DMay_any n W)
  unfold hasD
  by_cases hb : dsecB n = true
  · rw [hb] at c1 ⊢
    obtain ⟨k, rfl, hk⟩ := dsecB_some hb
    have e1 := hc (k / 64) (by omega)
    have c2 := hid (fun W => Has_any (f (k / 64)) ((k % 64 : Nat) : Int) W (hf _ (by omega)))
    rw [hasB_nat, show ((k % 64 : Nat) : Int) = (k : Int) % 64 by simp] at c2
    have hlt : k / 64 < 1350 := by omega
    clear hb hc hk
    go_enter Tryz.func45, Tryz.ntmps45
    go_wp2_with fail
    refine (c1.out _).mono ?_
    rintro e w' ⟨rfl, rfl⟩
    go_wp2_with fail
    refine (c2.out _).mono ?_
    rintro e w' ⟨rfl, rfl⟩
    go_wp2
    go_ret
    exact ⟨by simp [bitW], rfl⟩
  · have hb' : dsecB n = false := by simpa using hb
    rw [hb'] at c1 ⊢
    clear hb hb'
    go_enter Tryz.func45, Tryz.ntmps45
    go_wp2_with fail
    refine (c1.out _).mono ?_
    rintro e w' ⟨rfl, rfl⟩
    go_wp2
    go_ret
    exact ⟨rfl, rfl⟩
theorem DHas_nil (n : Int) (w : World) : Calls Tryz.prog 45 #[.pointer none, .int .i64 n] w fun e w' => e = .returned (.bool false) ∧ w = w' := by
  go_enter Tryz.func45, Tryz.ntmps45
  go_wp2
  go_ret
  exact ⟨rfl, rfl⟩

theorem Word_any (b : Nat) (f : Nat → Nat) (i : Nat) (w : World) (hc : DC w b f) (hi : i < 1350) :
    Calls Tryz.prog 147 #[.pointer (some ⟨b, 0, none⟩), .int .i64 i] w fun e w' => e = .returned (.int .u64 (f i : Nat)) ∧ w = w' := by
  have e1 := hc i hi
  clear hc
  go_enter Tryz.func147, Tryz.ntmps147
  go_wp2
  go_ret
  exact ⟨rfl, rfl⟩
theorem Word_nil (i : Nat) (w : World) : Calls Tryz.prog 147 #[.pointer none, .int .i64 i] w fun e w' => e = .returned (.int .u64 (0 : Nat)) ∧ w = w' := by
  go_enter Tryz.func147, Tryz.ntmps147
  go_wp2
  go_ret
  exact ⟨rfl, rfl⟩
end Go.Proofs.YtbfjceegfpddkaaGreatDoor

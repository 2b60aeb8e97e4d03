/-
  The document's answer for days: feriaref09.Meet, feriaref14.Live, feriaref14.Active.
  feriaref14.Live, feriaref14.Active, day.Active.
-/
import Derived.Test.YtndfckpcbiecnaaDayLaw
import Derived.Test.YtndfckpcbiecnaaClDcs
import Derived.Test.YtndfckpcbiecnaaClSpan
import Derived.Test.YtndfckpcbiecnaaClRDay
import Derived.Test.YtndfckpcbiecnaaInts
import Derived.Deep.RegionHeld3
import Derived.BigQuiet
import Derived.Deep.CutRange
import Derived.Test.YtndfckpcbiecnaaDaySet
namespace Go.Proofs.Ytndfckpcbiecnaa
open Go.RowKit
set_option linter.unusedVariables false

def pints (l : List (Int × Int)) : List Value := l.flatMap fun p => [.int .i64 p.1, .int .i64 p.2]
theorem pints_len (l : List (Int × Int)) : (pints l).length = l.length * 2 := by
  induction l with
  | nil => rfl
  | cons p l ih => rw [show pints (p :: l) = [.int .i64 p.1, .int .i64 p.2] ++ pints l by simp [pints], List.length_append, ih]; simp only [List.length_cons, List.length_nil]; omega
theorem pints_get : ∀ (l : List (Int × Int)) (k : Nat) (hk : k < l.length), (pints l)[k * 2]? = some (.int .i64 l[k].1) ∧ (pints l)[k * 2 + 1]? = some (.int .i64 l[k].2)
  | p :: l, 0, _ => by simp [pints]
  | p :: l, k + 1, hk => by
    have e : pints (p :: l) = [.int .i64 p.1, .int .i64 p.2] ++ pints l := by simp [pints]
    have h := pints_get l k (by simpa using hk)
    constructor
    · rw [e, List.getElem?_append_right (by simp only [List.length_cons, List.length_nil]; omega), show (k + 1) * 2 - [Value.int .i64 p.1, .int .i64 p.2].length = k * 2 by simp only [List.length_cons, List.length_nil]; omega, h.1]; simp
    · rw [e, List.getElem?_append_right (by simp only [List.length_cons, List.length_nil]; omega), show (k + 1) * 2 + 1 - [Value.int .i64 p.1, .int .i64 p.2].length = k * 2 + 1 by simp only [List.length_cons, List.length_nil]; omega, h.2]; simp
theorem Sl.atPint {w : World} {a : Option Addr} {l : List (Int × Int)} (h : Sl w a (pints l)) {k : Nat} (hk : k < l.length) :
    ∃ b off, a = some ⟨b, off, none⟩ ∧ b < w.heap.size ∧ w.cell? ⟨b, off + k * 2, none⟩ = some (.int .i64 l[k].1) ∧ w.cell? ⟨b, off + k * 2 + 1, none⟩ = some (.int .i64 l[k].2) := by
  obtain ⟨b, off, rfl, hlt, hc⟩ := Sl.at h (k := k * 2) (by rw [pints_len]; omega)
  obtain ⟨h1, h2⟩ := pints_get l k hk
  obtain ⟨g1, g2⟩ := List.getElem?_eq_some_iff.1 h1
  obtain ⟨g3, g4⟩ := List.getElem?_eq_some_iff.1 h2
  exact ⟨b, off, rfl, hlt, by rw [hc _ g1, g2], by rw [Nat.add_assoc, hc _ g3, g4]⟩
def mtF (l : List (Int × Int)) : Int := l.foldl (fun a p => max a p.1) 0
def mtU (l : List (Int × Int)) : Int := l.foldl (fun a p => min a p.2) 12622780799
theorem mtF_snoc (l : List (Int × Int)) (p : Int × Int) : mtF (l ++ [p]) = max (mtF l) p.1 := by rw [mtF, List.foldl_append]; rfl
theorem mtU_snoc (l : List (Int × Int)) (p : Int × Int) : mtU (l ++ [p]) = min (mtU l) p.2 := by rw [mtU, List.foldl_append]; rfl
structure MtS (w : World) (F U : Int) (W : World) : Prop where
  r0 : W.cell? ⟨w.heap.size, 0, none⟩ = some (.int .i64 0)
  r1 : W.cell? ⟨w.heap.size, 1, none⟩ = some (.int .i64 0)
  g0 : W.frozen? ⟨w.heap.size, 0, none⟩ = false
  g1 : W.frozen? ⟨w.heap.size, 1, none⟩ = false
  c0 : W.cell? ⟨w.heap.size + 1, 0, none⟩ = some (.int .i64 F)
  c1 : W.cell? ⟨w.heap.size + 1, 1, none⟩ = some (.int .i64 U)
  f0 : W.frozen? ⟨w.heap.size + 1, 0, none⟩ = false
  f1 : W.frozen? ⟨w.heap.size + 1, 1, none⟩ = false
  be : Below w.heap.size w W
  l : w.heap.size + 1 < W.heap.size
theorem MtS.drew {w W : World} {F U : Int} (h : MtS w F U W) : MtS w F U W.drew := by
  have hd : Below W.heap.size W W.drew := (Below.refl _ _).drew
  have l1 : w.heap.size < W.heap.size := by have := h.l; omega
  exact ⟨(hd.cell (p := ⟨w.heap.size, 0, none⟩) l1).trans h.r0, (hd.cell (p := ⟨w.heap.size, 1, none⟩) l1).trans h.r1, (hd.frozen (p := ⟨w.heap.size, 0, none⟩) l1).trans h.g0, (hd.frozen (p := ⟨w.heap.size, 1, none⟩) l1).trans h.g1,
    (hd.cell (p := ⟨w.heap.size + 1, 0, none⟩) h.l).trans h.c0, (hd.cell (p := ⟨w.heap.size + 1, 1, none⟩) h.l).trans h.c1, (hd.frozen (p := ⟨w.heap.size + 1, 0, none⟩) h.l).trans h.f0, (hd.frozen (p := ⟨w.heap.size + 1, 1, none⟩) h.l).trans h.f1, h.be.trans (hd.mono (by omega)), Nat.lt_of_lt_of_le h.l hd.size⟩
theorem MtS.setF {w W : World} {F U x : Int} (h : MtS w F U W) : MtS w x U (W.setCell ⟨w.heap.size + 1, 0, none⟩ (.int .i64 x)) := by
  obtain ⟨r0, r1, g0, g1, c0, c1, f0, f1, be, l⟩ := h
  exact ⟨by simp [go_sem, r0], by simp [go_sem, r1], by simp [go_sem, g0], by simp [go_sem, g1], by simp [go_sem, c0], by simp [go_sem, c1], by simp [go_sem, f0], by simp [go_sem, f1], below_set be (by omega), by simp [l]⟩
theorem MtS.setU {w W : World} {F U x : Int} (h : MtS w F U W) : MtS w F x (W.setCell ⟨w.heap.size + 1, 1, none⟩ (.int .i64 x)) := by
  obtain ⟨r0, r1, g0, g1, c0, c1, f0, f1, be, l⟩ := h
  exact ⟨by simp [go_sem, r0], by simp [go_sem, r1], by simp [go_sem, g0], by simp [go_sem, g1], by simp [go_sem, c0], by simp [go_sem, c1], by simp [go_sem, f0], by simp [go_sem, f1], below_set be (by omega), by simp [l]⟩
set_option maxRecDepth 100000 in
set_option maxHeartbeats 3200000 in
theorem RMeet9_any (a : Option Addr) (cap : Nat) (l : List (Int × Int)) (w : World) (hl : l.length ≤ 1000) (hs : Sl w a (pints l)) :
    Calls Try.prog 161 #[.slice a l.length cap] w fun e w' => e = .returned (spv (heldF (mtF l) (mtU l)) (heldU (mtF l) (mtU l))) ∧ Below w.heap.size w w' := by
  have cH := hid (fun f u W => RHeld9_any f u W)
  have Hs := hid hs
  clear hs
  go_enter Try.func161, Try.ntmps161
  go_upto_region 2 with fail
  have H0 : Hid (MtS w 0 12622780799 ((w.alloc (.cells #[.int .i64 0, .int .i64 0] 55)).alloc (.cells #[.int .i64 0, .int .i64 12622780799] 55))) :=
    ⟨by simp [go_sem], by simp [go_sem], by simp [go_sem], by simp [go_sem], by simp [go_sem], by simp [go_sem], by simp [go_sem], by simp [go_sem], below_new (below_new (Below.refl _ _) (Nat.le_refl _)) (by simp), by simp⟩
  go_wp2_with fail
  go_loopw [4] (fun i wr => ∃ k : Nat, i = .int .i64 k ∧ k ≤ l.length ∧ Hid (MtS w (mtF (l.take k)) (mtU (l.take k)) wr)) (fun i _ => l.length - (intOf i).toNat)
  case atStart => exact ⟨0, rfl, by omega, H0⟩
  case round =>
    obtain ⟨k, rfl, hk, HI⟩ := hrel
    by_cases hlt : k < l.length
    · have hltI : (k : Int) < l.length := by omega
      obtain ⟨b, off, rfl, hb, e1, e2⟩ := Hs.out.atPint hlt
      have e1' := (HI.out.be.cell (p := ⟨b, off + k * 2, none⟩) hb).trans e1
      have e2' := (HI.out.be.cell (p := ⟨b, off + k * 2 + 1, none⟩) hb).trans e2
      have ts := take_snoc l k hlt
      obtain ⟨⟨x, y⟩, hxy⟩ : ∃ p, l[k] = p := ⟨_, rfl⟩
      rw [hxy] at e1' e2' ts
      have s1 := mtF_snoc (l.take k) (x, y)
      have s2 := mtU_snoc (l.take k) (x, y)
      rw [← ts] at s1 s2
      obtain ⟨F, hF⟩ : ∃ F, mtF (l.take k) = F := ⟨_, rfl⟩
      obtain ⟨U, hU⟩ : ∃ U, mtU (l.take k) = U := ⟨_, rfl⟩
      rw [hF] at s1 HI
      rw [hU] at s2 HI
      have S1 := hid s1
      have S2 := hid s2
      have hne : Hid (b ≠ w.heap.size + 1) := by have := hb; exact Nat.ne_of_lt (by omega)
      clear e1 e2 ts hxy s1 s2 hF hU
      obtain ⟨r0, r1, g0, g1, c0, c1, f0, f1, -, -⟩ := HI.out
      have en : (b = w.heap.size + 1) = False := by simpa using hne.out
      rcases Int.lt_or_le F x with h1 | h1 <;> rcases Int.lt_or_le y U with h2 | h2
      all_goals
        go_upto_region 5 with fail
        go_region
        go_upto_region 7 with fail
        go_region
        go_wp2
        refine ⟨⟨k + 1, by go_num, by omega, ?_⟩, by simp [intOf]; omega⟩
        rw [S1.out, S2.out]
        first
          | (rw [show max F x = x by omega, show min U y = y by omega]; exact HI.out.setF.setU.drew.drew)
          | (rw [show max F x = x by omega, show min U y = U by omega]; exact HI.out.setF.drew.drew)
          | (rw [show max F x = F by omega, show min U y = y by omega]; exact HI.out.setU.drew.drew)
          | (rw [show max F x = F by omega, show min U y = U by omega]; exact HI.out.drew.drew)
    · have hltI : ¬ (k : Int) < l.length := by omega
      have hall : Hid (l.take k = l) := by show _ = _; rw [List.take_of_length_le (by omega)]
      rw [hall.out] at HI
      obtain ⟨F, hF⟩ : ∃ F, mtF l = F := ⟨_, rfl⟩
      obtain ⟨U, hU⟩ : ∃ U, mtU l = U := ⟨_, rfl⟩
      rw [hF, hU] at HI
      have HF := hid hF
      have HU := hid hU
      clear hF hU
      obtain ⟨r0, r1, g0, g1, c0, c1, f0, f1, -, -⟩ := HI.out
      go_wp2_with fail
      refine (cH.out _ _ _).mono ?_
      rintro e w2 ⟨rfl, hB2⟩
      have l1 := HI.out.l
      have k1 := (hB2.cell (p := ⟨w.heap.size, 0, none⟩) (by simp only []; omega)).trans r0
      have k2 := (hB2.cell (p := ⟨w.heap.size, 1, none⟩) (by simp only []; omega)).trans r1
      have q1 := (hB2.frozen (p := ⟨w.heap.size, 0, none⟩) (by simp only []; omega)).trans g0
      have q2 := (hB2.frozen (p := ⟨w.heap.size, 1, none⟩) (by simp only []; omega)).trans g1
      have HB2 : Hid (Below w.heap.size w w2) := HI.out.be.trans (hB2.mono (by omega))
      clear hB2 r0 r1 g0 g1 c0 c1 f0 f1
      obtain ⟨X, hX⟩ : ∃ X, heldF F U = X := ⟨_, rfl⟩
      obtain ⟨Y, hY⟩ : ∃ Y, heldU F U = Y := ⟨_, rfl⟩
      rw [hX, hY]
      have HX := hid hX
      have HY := hid hY
      clear hX hY
      go_wp2
      refine bodyPost_ret (v := spv X Y) (results_cell_mid rfl _ _ w.heap.size 0 _ _ rfl (range_two k1 k2) Try.underlying55 rfl infoS9) rfl ⟨?_, below_set (below_set HB2.out (Nat.le_refl _)) (Nat.le_refl _)⟩
      rw [HF.out, HU.out, HX.out, HY.out]

/-! ### feriaref14.Live -/
theorem live_meet {c : Cl} {n : Int} (h0 : 0 ≤ n) (h1 : n < 146097) :
    decide (heldF (mtF [(c.fr, c.un), (86400 * n, 86400 * n + 86399)]) (mtU [(c.fr, c.un), (86400 * n, 86400 * n + 86399)]) ≤ heldU (mtF [(c.fr, c.un), (86400 * n, 86400 * n + 86399)]) (mtU [(c.fr, c.un), (86400 * n, 86400 * n + 86399)])) = (heldB c.fr c.un && (decide (frD c ≤ n) && decide (n ≤ unD c))) := by
  have e1 : mtF [(c.fr, c.un), (86400 * n, 86400 * n + 86399)] = max (max 0 c.fr) (86400 * n) := rfl
  have e2 : mtU [(c.fr, c.un), (86400 * n, 86400 * n + 86399)] = min (min 12622780799 c.un) (86400 * n + 86399) := rfl
  rw [e1, e2, Bool.eq_iff_iff]
  simp only [Bool.and_eq_true, decide_eq_true_eq]
  unfold frD unD
  rcases held_cases c.fr c.un with ⟨a1, a2, a3⟩ | ⟨a1, a2, a3⟩
  · have hb : heldB c.fr c.un = true := decide_eq_true a3
    rw [a1, a2]
    rcases held_cases (max (max 0 c.fr) (86400 * n)) (min (min 12622780799 c.un) (86400 * n + 86399)) with ⟨b1, b2, b3⟩ | ⟨b1, b2, b3⟩ <;> rw [b1, b2] <;> simp only [hb, true_and] <;> omega
  · have hb : heldB c.fr c.un = false := decide_eq_false a3
    rcases held_cases (max (max 0 c.fr) (86400 * n)) (min (min 12622780799 c.un) (86400 * n + 86399)) with ⟨b1, b2, b3⟩ | ⟨b1, b2, b3⟩ <;> rw [b1, b2, hb] <;> simp <;> omega
theorem live_eq {c : Cl} {n : Int} (h0 : 0 ≤ n) (h1 : n < 146097) :
    (decide (heldF (mtF [(c.fr, c.un), (86400 * n, 86400 * n + 86399)]) (mtU [(c.fr, c.un), (86400 * n, 86400 * n + 86399)]) ≤ heldU (mtF [(c.fr, c.un), (86400 * n, 86400 * n + 86399)]) (mtU [(c.fr, c.un), (86400 * n, 86400 * n + 86399)])) && dayC c n) = liveD c n := by
  rw [live_meet h0 h1, liveD, okD, onD, dayC]
  cases heldB c.fr c.un <;> cases mayC c <;> cases decide (frD c ≤ n) <;> cases decide (n ≤ unD c) <;> simp
end Go.Proofs.Ytndfckpcbiecnaa
namespace Go.Proofs.Ytndfckpcbiecnaa
open Go.RowKit
set_option linter.unusedVariables false

attribute [local go_sem ↓] loadAt_cl
set_option maxRecDepth 100000 in
set_option maxHeartbeats 3200000 in
theorem RLive_any (c : Cl) (n : Int) (w : World) (hc : c.Ok) (h0 : 0 ≤ n) (h1 : n < 146097) : Calls Try.prog 116 #[clv c, shN n] w fun e w' => e = .returned (.bool (liveD c n)) ∧ Below w.heap.size w w' := by
  rw [← live_eq h0 h1]
  obtain ⟨W0, hW0⟩ : ∃ W0, (w.alloc (.cells (clList c).toArray 28)).alloc (.cells (shList (shF n)).toArray 60) = W0 := ⟨_, rfl⟩
  have HD0 : Hid (DaS w c (shF n) W0) := by rw [← hW0]; exact daS_new w c (shF n) _ _
  have cM : Hid (Calls Try.prog 161 #[.slice (some ⟨W0.heap.size, 0, none⟩) 2 2] (W0.alloc (.cells #[.int .i64 c.fr, .int .i64 c.un, .int .i64 (86400 * n), .int .i64 (86400 * n + 86399)] 55)) fun e w' =>
      e = .returned (spv (heldF (mtF [(c.fr, c.un), (86400 * n, 86400 * n + 86399)]) (mtU [(c.fr, c.un), (86400 * n, 86400 * n + 86399)])) (heldU (mtF [(c.fr, c.un), (86400 * n, 86400 * n + 86399)]) (mtU [(c.fr, c.un), (86400 * n, 86400 * n + 86399)]))) ∧ Below W0.heap.size W0 w') := by
    refine (RMeet9_any (some ⟨W0.heap.size, 0, none⟩) 2 [(c.fr, c.un), (86400 * n, 86400 * n + 86399)] _ (by simp) (sl_range (range_new W0 _ _) (by simp))).mono ?_
    rintro e w' ⟨he, hb⟩
    exact ⟨he, (below_new (Below.refl _ _) (Nat.le_refl _)).trans (hb.mono (by simp))⟩
  have cD := hid (fun W => RDay13_any c n W hc h0 h1)
  obtain ⟨X, hX⟩ : ∃ X, heldF (mtF [(c.fr, c.un), (86400 * n, 86400 * n + 86399)]) (mtU [(c.fr, c.un), (86400 * n, 86400 * n + 86399)]) = X := ⟨_, rfl⟩
  obtain ⟨Y, hY⟩ : ∃ Y, heldU (mtF [(c.fr, c.un), (86400 * n, 86400 * n + 86399)]) (mtU [(c.fr, c.un), (86400 * n, 86400 * n + 86399)]) = Y := ⟨_, rfl⟩
  rw [hX, hY] at cM ⊢
  obtain ⟨D, hD⟩ : ∃ D, dayC c n = D := ⟨_, rfl⟩
  rw [hD] at cD ⊢
  have hn : shF n 0 = n := rfl
  rw [← shq_shF] at cD ⊢
  obtain ⟨s, hs⟩ : ∃ s, shF n = s := ⟨_, rfl⟩
  rw [hs] at HD0 cD hn hW0 ⊢
  rw [shq] at cD ⊢
  rw [← hn] at cM h0 h1
  have HW0 := hid hW0
  clear hX hY hD hn hs hW0 hc
  by_cases hxy : X ≤ Y
  · rw [decide_eq_true hxy, Bool.true_and]
    go_enter Try.func116, Try.ntmps116
    go_upto_region 1 with fail
    rw [HW0.out]
    obtain ⟨q0, q1, q2, q3, q4, q5, q6, q7, q8, q9⟩ := HD0.out.2.1
    obtain ⟨-, -, -, t3, t4⟩ := HD0.out.1.tail
    go_wp2_with fail
    refine cM.out.mono ?_
    rintro e w1 ⟨rfl, hB1⟩
    have hbA := hid (below_new (o := .cells #[.int .i64 X, .int .i64 Y] 55) (Below.refl w1.heap.size w1) (Nat.le_refl _))
    have HD1 := hid ((HD0.out.keep hB1).keep hbA.out)
    obtain ⟨W1, hW1⟩ : ∃ W, w1.alloc (.cells #[.int .i64 X, .int .i64 Y] 55) = W := ⟨_, rfl⟩
    have k1 : W1.cell? ⟨w1.heap.size, 0, none⟩ = some (.int .i64 X) := by rw [← hW1]; simp [go_sem]
    have k2 : W1.cell? ⟨w1.heap.size, 1, none⟩ = some (.int .i64 Y) := by rw [← hW1]; simp [go_sem]
    rw [hW1] at HD1
    have HW1 := hid hW1
    clear hB1 hbA hW1 q0 q1 q2 q3 q4 q5 q6 q7 q8 q9 t3 t4
    obtain ⟨r0, r1, r2, r3, r4, r5, r6, r7, r8, r9⟩ := HD1.out.2.1
    have l1 := HD1.out.1.ld
    go_upto_region 3 with fail
    rw [HW1.out]
    have hd : decide (X ≤ Y) = true := decide_eq_true hxy
    go_wp2_with fail
    refine (cD.out _).mono ?_
    rintro e w2 ⟨rfl, hB2⟩
    have HD2 := hid (HD1.out.keep hB2)
    clear hB2 l1 r0 r1 r2 r3 r4 r5 r6 r7 r8 r9
    go_wp2
    go_ret
    exact ⟨rfl, HD2.out.2.2.1⟩
  · rw [decide_eq_false (by omega : ¬ X ≤ Y), Bool.false_and]
    go_enter Try.func116, Try.ntmps116
    go_upto_region 1 with fail
    rw [HW0.out]
    obtain ⟨q0, q1, q2, q3, q4, q5, q6, q7, q8, q9⟩ := HD0.out.2.1
    obtain ⟨-, -, -, t3, t4⟩ := HD0.out.1.tail
    go_wp2_with fail
    refine cM.out.mono ?_
    rintro e w1 ⟨rfl, hB1⟩
    have hbA := hid (below_new (o := .cells #[.int .i64 X, .int .i64 Y] 55) (Below.refl w1.heap.size w1) (Nat.le_refl _))
    have HD1 := hid ((HD0.out.keep hB1).keep hbA.out)
    obtain ⟨W1, hW1⟩ : ∃ W, w1.alloc (.cells #[.int .i64 X, .int .i64 Y] 55) = W := ⟨_, rfl⟩
    have k1 : W1.cell? ⟨w1.heap.size, 0, none⟩ = some (.int .i64 X) := by rw [← hW1]; simp [go_sem]
    have k2 : W1.cell? ⟨w1.heap.size, 1, none⟩ = some (.int .i64 Y) := by rw [← hW1]; simp [go_sem]
    rw [hW1] at HD1
    have HW1 := hid hW1
    clear hB1 hbA hW1 q0 q1 q2 q3 q4 q5 q6 q7 q8 q9 t3 t4
    obtain ⟨r0, r1, r2, r3, r4, r5, r6, r7, r8, r9⟩ := HD1.out.2.1
    have l1 := HD1.out.1.ld
    go_upto_region 3 with fail
    rw [HW1.out]
    have hd : decide (X ≤ Y) = false := decide_eq_false (by omega)
    go_wp2
    go_ret
    exact ⟨rfl, HD1.out.2.2.1⟩

/-! ### feriaref14.Active -/
def liveN (cs : List Cl) (n : Int) : Nat → List Int
  | 0 => []
  | k + 1 => liveN cs n k ++ (if liveD (atC cs k) n then [(k : Int)] else [])
theorem liveN_mem {cs : List Cl} {n : Int} {i : Nat} : ∀ {k : Nat}, (i : Int) ∈ liveN cs n k ↔ i < k ∧ liveD (atC cs i) n = true
  | 0 => by simp [liveN]
  | k + 1 => by
    rw [liveN, List.mem_append, liveN_mem]
    by_cases h : liveD (atC cs k) n = true
    · rw [if_pos h, List.mem_singleton]
      constructor
      · rintro (⟨h1, h2⟩ | e)
        · exact ⟨by omega, h2⟩
        · obtain rfl : i = k := by omega
          exact ⟨by omega, h⟩
      · rintro ⟨h1, h2⟩
        by_cases e : i = k
        · exact .inr (by omega)
        · exact .inl ⟨by omega, h2⟩
    · rw [if_neg h]
      constructor
      · rintro (⟨h1, h2⟩ | h1)
        · exact ⟨by omega, h2⟩
        · cases h1
      · rintro ⟨h1, h2⟩
        by_cases e : i = k
        · subst e; exact absurd h2 h
        · exact .inl ⟨by omega, h2⟩
theorem liveN_len (cs : List Cl) (n : Int) : ∀ k, (liveN cs n k).length ≤ k
  | 0 => by simp [liveN]
  | k + 1 => by have := liveN_len cs n k; rw [liveN, List.length_append]; split <;> simp <;> omega
theorem liveN_act (cs : List Cl) (n : Int) : ofM (liveN cs n (min cs.length 64)) = actM cs n := by
  rw [ofM, actM]
  refine mk_congr fun i hi => ?_
  rw [inB, Bool.eq_iff_iff]
  simp only [Bool.and_eq_true, decide_eq_true_eq, liveN_mem]
  constructor
  · rintro ⟨h1, h2⟩; exact ⟨by omega, h2⟩
  · rintro ⟨h1, h2⟩; exact ⟨by omega, h2⟩
structure RvF (w : World) (v : Value) (L : List Int) (s : Nat → Int) (W : World) : Prop where
  own : W.ownsRow (w.heap.size + 1) 3 1 v L.length (ints L)
  sh : ShS W w.heap.size s
  be : Below w.heap.size w W
  l : w.heap.size < W.heap.size
theorem RvF.keep {w W W' : World} {v : Value} {L : List Int} {s : Nat → Int} (h : RvF w v L s W) (hb : Below W.heap.size W W') : RvF w v L s W' :=
  ⟨owns_below h.own hb (Nat.le_refl _), h.sh.below hb h.l, h.be.trans (hb.mono (by have := h.l; omega)), Nat.lt_of_lt_of_le h.l hb.size⟩
abbrev RvS (w : World) (v : Value) (L : List Int) (s : Nat → Int) (b o : Nat) (c : Cl) (W : World) : Prop :=
  (loadClS (.pointer (some ⟨b, o, none⟩))).run Try.prog W = .ok (clv c) W ∧ ShS W w.heap.size s ∧ RvF w v L s W ∧ Hid (W.rangeAt b o (clList c)) ∧ b < W.heap.size
theorem RvS.mk' {w : World} {v : Value} {L : List Int} {s : Nat → Int} {b o : Nat} {c : Cl} {W : World} (h : RvF w v L s W) (hr : W.rangeAt b o (clList c)) (hb : b < W.heap.size) : RvS w v L s b o c W := ⟨ld_at hr, h.sh, h, hr, hb⟩
theorem sh_grown {w W W' : World} {s : Nat → Int} {row : Option Nat} (h : ShS W w.heap.size s) (hg : W.grownBy W' row) (hr : ∀ k, row = some k → w.heap.size + 1 ≤ k) (hl : w.heap.size < W.heap.size) : ShS W' w.heap.size s := by
  have hb : Below (w.heap.size + 1) W W' := Below.of_grown hg hl hr
  exact ShC.below h hb (by omega)
set_option maxRecDepth 100000 in
set_option maxHeartbeats 3200000 in
theorem RActive_any (a : Option Addr) (cap : Nat) (cs : List Cl) (n : Int) (w : World) (hl : cs.length ≤ 9223372036854775807) (hs : Sl w a (cls cs)) (hok : ∀ c ∈ cs, c.Ok) (h0 : 0 ≤ n) (h1 : n < 146097) :
    Calls Try.prog 50 #[.slice a cs.length cap, shN n] w fun e w' => e = .returned (.int .u64 (actM cs n : Nat)) ∧ Below w.heap.size w w' := by
  have cL := hid (fun c (hc : c.Ok) W => RLive_any c n W hc h0 h1)
  have Hs := hid hs
  have Hok := hid hok
  have HF0 : Hid (RvF w (.slice none 0 0) [] (shF n) (w.alloc (.cells (shList (shF n)).toArray 60))) :=
    ⟨⟨rfl, .inl ⟨rfl, rfl⟩⟩, shC_new w 60 _ _ _ _ _ _ _ _ _ _, below_new (Below.refl _ _) (Nat.le_refl _), by simp⟩
  rw [← shq_shF] at cL ⊢
  obtain ⟨s, hs⟩ : ∃ s, shF n = s := ⟨_, rfl⟩
  rw [hs] at HF0 cL ⊢
  clear hs hok h0 h1
  obtain ⟨W0, hW0⟩ : ∃ W, w.alloc (.cells (shList s).toArray 60) = W := ⟨_, rfl⟩
  rw [hW0] at HF0
  have HW0 := hid hW0
  clear hW0
  rw [shq] at cL ⊢
  go_enter Try.func50, Try.ntmps50
  go_upto_region 1 with fail
  rw [HW0.out]
  go_wp2_with fail
  go_loopw [5, 6] (fun v i wr => ∃ k : Nat, i = .int .i64 k ∧ k ≤ cs.length ∧ k ≤ 64 ∧ Hid (RvF w v (liveN cs n k) s wr)) (fun _ i _ => cs.length - (intOf i).toNat)
  case atStart => exact ⟨0, rfl, by omega, by omega, HF0⟩
  case round =>
    obtain ⟨k, rfl, hk, hk64, HI⟩ := hrel
    by_cases hlt : k < cs.length
    · by_cases h64 : k < 64
      · have hltI : (k : Int) < cs.length := by omega
        have hI64 : (k : Int) < 64 := by omega
        obtain ⟨b, off, rfl, hbk, hr⟩ := Hs.out.atCl hlt
        have hr' := range_below hr HI.out.be hbk
        have hcOk := hid (Hok.out _ (List.getElem_mem hlt))
        have hat := atC_get hlt
        have hN : liveN cs n (k + 1) = liveN cs n k ++ (if liveD (atC cs k) n then [(k : Int)] else []) := rfl
        obtain ⟨c, hc⟩ : ∃ c, cs[k] = c := ⟨_, rfl⟩
        rw [hc] at hr' hcOk hat
        rw [hat] at hN
        have hlen := liveN_len cs n k
        obtain ⟨L, hL⟩ : ∃ L, liveN cs n k = L := ⟨_, rfl⟩
        rw [hL] at HI hN hlen
        have cV := hid (fun W => cL.out c hcOk.out W)
        obtain ⟨D, hD⟩ : ∃ D, liveD c n = D := ⟨_, rfl⟩
        rw [hD] at cV hN
        have HN := hid hN
        have hdrew : Below wr.heap.size wr wr.drew := (Below.refl _ _).drew
        have hbw : b < wr.heap.size := Nat.lt_of_lt_of_le hbk HI.out.be.size
        have HS0 : Hid (RvS w u5 L s b (off + k * 30) c wr.drew) := RvS.mk' (HI.out.keep hdrew) (range_below hr' hdrew hbw) (Nat.lt_of_lt_of_le hbw hdrew.size)
        have cV' : Hid (∀ W, RvS w u5 L s b (off + k * 30) c W → Calls Try.prog 116 #[clv c, .agg #[.int .i64 (s 0), .int .i64 (s 1), .int .i64 (s 2), .int .i64 (s 3), .int .i64 (s 4), .int .i64 (s 5), .int .i64 (s 6), .int .i64 (s 7), .int .i64 (s 8), .int .i64 (s 9)]] W fun e w' => e = .returned (.bool D) ∧ RvS w u5 L s b (off + k * 30) c w') := fun W hS =>
          (cV.out W).mono fun e w' ⟨he, hb⟩ => ⟨he, RvS.mk' (hS.2.2.1.keep hb) (range_below hS.2.2.2.1.out hb hS.2.2.2.2) (Nat.lt_of_lt_of_le hS.2.2.2.2 hb.size)⟩
        clear hr hr' hat hN hc hL hD hdrew hbw
        go_upto_region 5 with fail
        refine wp_region_held_drew (S := fun w' => RvS w u5 L s b (off + k * 30) c w') (by kernel_rfl) HS0.out (fun hHeld => ?_)
        refine wpAnyH_take (i := 0) (v := ?_) rfl (by kernel_rfl) (by kernel_rfl) (by kernel_rfl) (fun _ _ _ h => h) (Or.inl ⟨by rfl, ?_⟩) (by assumption) ?_
        rotate_left
        · intro w hSw; go_simp; (try with_reducible rfl)
        (try simp only [Act.put, List.getElem_toArray, List.getElem_cons_zero, List.setIfInBounds_toArray, List.set_cons_zero, List.set_cons_succ])
        refine wpAnyH_take (i := 1) (v := ?_) rfl (by kernel_rfl) (by kernel_rfl) (by kernel_rfl) (fun _ _ _ h => h) (Or.inl ⟨by rfl, ?_⟩) (by assumption) ?_
        rotate_left
        · intro w hSw; go_simp; (try with_reducible rfl)
        (try simp only [Act.put, List.getElem_toArray, List.getElem_cons_succ, List.getElem_cons_zero, List.setIfInBounds_toArray, List.set_cons_zero, List.set_cons_succ])
        refine wpAnyH_take (i := 2) (v := ?_) rfl (by kernel_rfl) (by kernel_rfl) (by kernel_rfl) (fun _ _ _ h => h) (Or.inl ⟨by rfl, ?_⟩) (by assumption) ?_
        rotate_left
        · intro w hSw; go_simp; (try with_reducible rfl)
        (try simp only [Act.put, List.getElem_toArray, List.getElem_cons_succ, List.getElem_cons_zero, List.setIfInBounds_toArray, List.set_cons_zero, List.set_cons_succ])
        refine wpAnyH_take (i := 3) (v := ?_) rfl (by kernel_rfl) (by kernel_rfl) (by kernel_rfl) (fun _ _ _ h => h) (Or.inl ⟨by rfl, ?_⟩) (by assumption) ?_
        rotate_left
        · intro w hSw; go_simp; (try with_reducible rfl)
        (try simp only [Act.put, List.getElem_toArray, List.getElem_cons_succ, List.getElem_cons_zero, List.setIfInBounds_toArray, List.set_cons_zero, List.set_cons_succ])
        refine wpAnyH_take (i := 4) (v := ?_) rfl (by kernel_rfl) (by kernel_rfl) (by kernel_rfl) (fun _ _ _ h => h) (Or.inl ⟨by rfl, ?_⟩) (by assumption) ?_
        rotate_left
        · intro w hSw; go_simp; (try with_reducible rfl)
        (try simp only [Act.put, List.getElem_toArray, List.getElem_cons_succ, List.getElem_cons_zero, List.setIfInBounds_toArray, List.set_cons_zero, List.set_cons_succ])
        refine wpAnyH_ready (rs := [5]) (by kernel_rfl) (by simp) ?_
        refine AllReadyH.cons rfl (fun K hK => ?_) AllReadyH.nil
        go_simp
        refine (cV'.out _ (by assumption)).mono ?_; rintro e w1 ⟨rfl, hS1⟩
        (try go_wp2_with fail)
        refine hK.out _ _ (by assumption) (fun hHeld => ?_)
        clear hK K
        (try simp only [Act.put, List.getElem_toArray, List.getElem_cons_succ, List.getElem_cons_zero, List.setIfInBounds_toArray, List.set_cons_zero, List.set_cons_succ])
        refine wpAnyH_done (by kernel_rfl) ?_ _
        have HV := hid (‹RvS w u5 L s b (off + k * 30) c _›).2.2.1
        cases D
        · have hn : Hid (liveN cs n (k + 1) = L) := by show _ = _; rw [HN.out]; simp
          go_wp2
          exact ⟨⟨k + 1, by go_num, by omega, by omega, by rw [hn.out]; exact HV.out⟩, by simp [intOf]; omega⟩
        · have hn : Hid (liveN cs n (k + 1) = L ++ [(k : Int)]) := by show _ = _; rw [HN.out]; simp
          have hown := hid HV.out.own
          have hl1 := HV.out.l
          go_wp2_with (at_builtin; refine app1 eInt (.tmp 23) (.tmp 25) rfl rfl rfl rfl rfl hown.out rfl (by omega) (by omega) (by omega) ?_)
          intro a' cap' w5 h1 h2 h3 h4
          have hv := hid (fun g e => (hown.out.lt g e).1)
          have HR : Hid (RvF w (.slice a' (L.length + 1) cap') (L ++ [(k : Int)]) s w5) := by
            refine ⟨?_, sh_grown HV.out.sh h2 hv.out hl1, HV.out.be.trans (h3.mono (by omega)), Nat.lt_of_lt_of_le hl1 h2.size⟩
            rw [ints_append, List.length_append]; exact h1
          clear h1 h2 h3 h4
          go_wp2
          exact ⟨⟨k + 1, by go_num, by omega, by omega, by rw [hn.out]; exact HR.out⟩, by simp [intOf]; omega⟩
      · have hI64 : ¬ (k : Int) < 64 := by omega
        have hltI : (k : Int) < cs.length := by omega
        have hke : Hid (min cs.length 64 = k) := by show _ = _; omega
        have hle := liveN_len cs n k
        have hact := hid (liveN_act cs n)
        rw [hke.out] at hact
        obtain ⟨L, hL⟩ : ∃ L, liveN cs n k = L := ⟨_, rfl⟩
        rw [hL] at HI hact hle
        obtain ⟨al, cl, hv, hsl, -⟩ := owns_form HI.out.own
        obtain rfl := hv
        have Hsl := hid hsl
        have cO := hid (fun W h => ROf_any al cl L W (by omega) h)
        clear hL hsl
        go_wp2_with fail
        refine (cO.out _ Hsl.out).mono ?_
        rintro e w2 ⟨rfl, hB2⟩
        have HB2 := hid (HI.out.be.trans (hB2.mono (by have := HI.out.l; omega)))
        clear hB2
        go_wp2
        go_ret
        rw [hact.out]
        exact ⟨rfl, HB2.out⟩
    · have hltI : ¬ (k : Int) < cs.length := by omega
      have hke : Hid (min cs.length 64 = k) := by show _ = _; omega
      have hle := liveN_len cs n k
      have hact := hid (liveN_act cs n)
      rw [hke.out] at hact
      obtain ⟨L, hL⟩ : ∃ L, liveN cs n k = L := ⟨_, rfl⟩
      rw [hL] at HI hact hle
      obtain ⟨al, cl, hv, hsl, -⟩ := owns_form HI.out.own
      obtain rfl := hv
      have Hsl := hid hsl
      have cO := hid (fun W h => ROf_any al cl L W (by omega) h)
      clear hL hsl
      go_wp2_with fail
      refine (cO.out _ Hsl.out).mono ?_
      rintro e w2 ⟨rfl, hB2⟩
      have HB2 := hid (HI.out.be.trans (hB2.mono (by have := HI.out.l; omega)))
      clear hB2
      go_wp2
      go_ret
      rw [hact.out]
      exact ⟨rfl, HB2.out⟩
end Go.Proofs.Ytndfckpcbiecnaa

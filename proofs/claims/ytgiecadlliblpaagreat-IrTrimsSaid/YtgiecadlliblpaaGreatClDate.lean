/-
  clause.nth: has a day an Ord?
  feriaref13.nth: has a day an Ord?
  feriaref13.Date: has a day a clause, but for its step?
  clause.Days' function: does a day have the clause?
-/
import Derived.Test.YtgiecadlliblpaaGreatClRMay
import Derived.Test.YtgiecadlliblpaaGreatClSh
import Derived.Test.YtgiecadlliblpaaGreatMaskWalk
import Derived.Test.YtgiecadlliblpaaGreatCivShape
import Derived.Test.YtgiecadlliblpaaGreatWideSets
import Derived.Test.YtgiecadlliblpaaGreatUnits
namespace Go.Proofs.YtgiecadlliblpaaGreat
open Go.RowKit
set_option linter.unusedVariables false

set_option maxRecDepth 100000 in
set_option maxHeartbeats 3200000 in
theorem CNth_any (oin : Int) (oback : Bool) (od : Nat → Nat) (s : Nat → Int) (w : World) (ho : oin = 0 ∨ oin = 1 ∨ oin = 2) (h : ∀ i, i < 8 → od i < 18446744073709551616) (hs : 1 ≤ s 5 ∧ s 5 ≤ 7) :
    Calls Tryz.prog 95 #[ordv oin oback od, shq s] w fun e w' => e = .returned (.bool (nthB oin oback od s)) ∧ Below w.heap.size w w' := by
  have hm := hid (fun (k : Nat) (hk : k < 8) (n : Int) W => Has_any (od k) n W (h k hk))
  have h5 : s 5 = 1 ∨ s 5 = 2 ∨ s 5 = 3 ∨ s 5 = 4 ∨ s 5 = 5 ∨ s 5 = 6 ∨ s 5 = 7 := by omega
  rw [shq]
  clear h hs
  rcases ho with rfl | rfl | rfl
  · clear h5
    have hr : Hid (nthB 0 oback od s = true) := rfl
    rw [hr.out]
    go_enter Tryz.func95, Tryz.ntmps95
    go_wp2
    go_ret
    exact ⟨rfl, below_new (below_new (Below.refl _ _) (Nat.le_refl _)) (by simp)⟩
  all_goals
    rcases h5 with h5 | h5 | h5 | h5 | h5 | h5 | h5
  all_goals
    rw [nthB, h5]
    clear h5
    cases oback
  all_goals
    go_enter Tryz.func95, Tryz.ntmps95
    go_wp2_with (go_at_call 62; refine (hm.out _ ?_ _ _).mono ?_; decide; rintro e w' ⟨rfl, rfl⟩)
    go_ret
    exact ⟨rfl, below_new (below_new (Below.refl _ _) (Nat.le_refl _)) (by simp)⟩
end Go.Proofs.YtgiecadlliblpaaGreat
namespace Go.Proofs.YtgiecadlliblpaaGreat
open Go.RowKit
set_option linter.unusedVariables false

set_option maxRecDepth 100000 in
set_option maxHeartbeats 3200000 in
theorem RNth13_any (oin : Int) (oback : Bool) (od : Nat → Nat) (s : Nat → Int) (w : World) (ho : oin = 0 ∨ oin = 1 ∨ oin = 2) (h : ∀ i, i < 8 → od i < 18446744073709551616) (hs : 1 ≤ s 5 ∧ s 5 ≤ 7) :
    Calls Tryz.prog 69 #[ordv oin oback od, shq s] w fun e w' => e = .returned (.bool (nthB oin oback od s)) ∧ Below w.heap.size w w' := by
  have hm := hid (fun (k : Nat) (hk : k < 8) (n : Int) W => RHas_any (od k) n W (h k hk))
  have h5 : s 5 = 1 ∨ s 5 = 2 ∨ s 5 = 3 ∨ s 5 = 4 ∨ s 5 = 5 ∨ s 5 = 6 ∨ s 5 = 7 := by omega
  rw [shq]
  clear h hs
  rcases ho with rfl | rfl | rfl
  · clear h5
    have hr : Hid (nthB 0 oback od s = true) := rfl
    rw [hr.out]
    go_enter Tryz.func69, Tryz.ntmps69
    go_wp2
    go_ret
    exact ⟨rfl, below_new (below_new (Below.refl _ _) (Nat.le_refl _)) (by simp)⟩
  all_goals
    rcases h5 with h5 | h5 | h5 | h5 | h5 | h5 | h5
  all_goals
    rw [nthB, h5]
    clear h5
    cases oback
  all_goals
    go_enter Tryz.func69, Tryz.ntmps69
    go_wp2_with (go_at_call 48; refine (hm.out _ ?_ _ _).mono ?_; decide; rintro e w' ⟨rfl, rfl⟩)
    go_ret
    exact ⟨rfl, below_new (below_new (Below.refl _ _) (Nat.le_refl _)) (by simp)⟩
end Go.Proofs.YtgiecadlliblpaaGreat
namespace Go.Proofs.YtgiecadlliblpaaGreat
open Go.RowKit
set_option linter.unusedVariables false

def domB (c : Cl) (s : Nat → Int) : Bool := if c.or then hasB (c.m 4) (s 3) || hasB (c.m 6) (s 5) else hasB (c.m 4) (s 3) && hasB (c.m 6) (s 5)
def dateB (c : Cl) (s : Nat → Int) : Bool := domB c s && (hasB (c.m 3) (s 2) && (hasB (c.m 5) (s 4) && (hasW c.ys (s 1 - 1970) && nthB c.oin c.oback c.od s)))

/-- what Date reads: the clause's block, the shape's block -/
abbrev DaS (w : World) (c : Cl) (s : Nat → Int) (W : World) : Prop :=
  ClB W w.heap.size c ∧ ShS W (w.heap.size + 1) s ∧ Below w.heap.size w W ∧ w.heap.size + 1 < W.heap.size
theorem DaS.keep {w W W' : World} {c : Cl} {s : Nat → Int} (h : DaS w c s W) (hb : Below W.heap.size W W') : DaS w c s W' := by
  obtain ⟨h1, h2, h3, h4⟩ := h
  exact ⟨h1.below hb (by omega), h2.below hb h4, h3.trans (hb.mono (by omega)), Nat.lt_of_lt_of_le h4 hb.size⟩
theorem daS_new (w : World) (c : Cl) (s : Nat → Int) (t t' : TypeId) : DaS w c s ((w.alloc (.cells (clList c).toArray t)).alloc (.cells (shList s).toArray t')) := by
  have h1 := (clB_new w c t).below (below_new (o := .cells (shList s).toArray t') (Below.refl _ _) (Nat.le_refl _)) (by simp)
  have h2 := shC_new (w.alloc (.cells (clList c).toArray t)) t' (s 0) (s 1) (s 2) (s 3) (s 4) (s 5) (s 6) (s 7) (s 8) (s 9)
  rw [World.size_alloc] at h2
  exact ⟨h1, h2, below_new (below_new (Below.refl _ _) (Nat.le_refl _)) (by simp), by simp⟩

set_option maxRecDepth 100000 in
set_option maxHeartbeats 3200000 in
theorem RDate13_any (c : Cl) (s : Nat → Int) (w : World) (hc : c.Ok) (ho : c.oin = 0 ∨ c.oin = 1 ∨ c.oin = 2) (hw : 1 ≤ s 5 ∧ s 5 ≤ 7) (hy : 0 ≤ s 1 ∧ s 1 < 100000) :
    Calls Tryz.prog 45 #[clv c, shq s] w fun e w' => e = .returned (.bool (dateB c s)) ∧ Below w.heap.size w w' := by
  obtain ⟨W0, hW0⟩ : ∃ W0, (w.alloc (.cells (clList c).toArray 40)).alloc (.cells (shList s).toArray 53) = W0 := ⟨_, rfl⟩
  have HD : Hid (DaS w c s W0) := by rw [← hW0]; exact daS_new w c s _ _
  have HW0 := hid hW0
  clear hW0
  have m3 := hid (fun W => RHas_any (c.m 3) (s 2) W (hc.m 3 (by omega)))
  have m4 := hid (fun W => RHas_any (c.m 4) (s 3) W (hc.m 4 (by omega)))
  have m5 := hid (fun W => RHas_any (c.m 5) (s 4) W (hc.m 5 (by omega)))
  have m6 := hid (fun W => RHas_any (c.m 6) (s 5) W (hc.m 6 (by omega)))
  have cn := hid (fun W => RNth13_any c.oin c.oback c.od s W ho hc.od hw)
  have cw := hid (fun W => RHasW_any c.ys (s 1 - 1970) W hc.ys)
  have hsub := hid (IntWalk.i64_in (s 1 - 1970) (by omega))
  have hr : Hid (dateB c s = (domB c s && (hasB (c.m 3) (s 2) && (hasB (c.m 5) (s 4) && (hasW c.ys (s 1 - 1970) && nthB c.oin c.oback c.od s))))) := rfl
  rw [hr.out, domB, shq]
  rw [shq] at cn
  clear hr hc ho hw hy
  obtain ⟨x3, hx3⟩ : ∃ b, hasB (c.m 3) (s 2) = b := ⟨_, rfl⟩
  obtain ⟨x4, hx4⟩ : ∃ b, hasB (c.m 4) (s 3) = b := ⟨_, rfl⟩
  obtain ⟨x5, hx5⟩ : ∃ b, hasB (c.m 5) (s 4) = b := ⟨_, rfl⟩
  obtain ⟨x6, hx6⟩ : ∃ b, hasB (c.m 6) (s 5) = b := ⟨_, rfl⟩
  obtain ⟨xw, hxw⟩ : ∃ b, hasW c.ys (s 1 - 1970) = b := ⟨_, rfl⟩
  obtain ⟨xn, hxn⟩ : ∃ b, nthB c.oin c.oback c.od s = b := ⟨_, rfl⟩
  rw [hx3] at m3 ⊢
  rw [hx4] at m4 ⊢
  rw [hx5] at m5 ⊢
  rw [hx6] at m6 ⊢
  rw [hxw] at cw ⊢
  rw [hxn] at cn ⊢
  obtain ⟨xo, hxo⟩ : ∃ b, c.or = b := ⟨_, rfl⟩
  have Hxo := hid hxo
  rw [hxo]
  clear hx3 hx4 hx5 hx6 hxw hxn hxo
  go_enter Tryz.func45, Tryz.ntmps45
  go_wp2_with fail
  rw [HW0.out]
  have r4 := HD.out.1.at 4 rfl
  have r6 := HD.out.1.at 6 rfl
  obtain ⟨-, -, -, q3, -, q5, -, -, -, -⟩ := HD.out.2.1
  go_quiet (first
    | (go_at_call 48; with_reducible refine (m4.out _).mono ?_; exact fun _ _ h => ⟨h.1, _, h.2.symm⟩)
    | (go_at_call 48; with_reducible refine (m6.out _).mono ?_; exact fun _ _ h => ⟨h.1, _, h.2.symm⟩))
  clear r4 r6 q3 q5 m4 m6
  have HB0 : Hid (Below w.heap.size w W0) := HD.out.2.2.1
  have r7 := HD.out.1.at 7 rfl
  have r3 := HD.out.1.at 3 rfl
  obtain ⟨-, -, q2, -, -, -, -, -, -, -⟩ := HD.out.2.1
  rw [Hxo.out] at r7
  cases xo <;> cases x4 <;> cases x6
  all_goals go_wp2_with fail
  all_goals try
    go_ret
    exact ⟨rfl, below_drewN HB0.out _⟩
  all_goals
    refine (m3.out _).mono ?_
    rintro e w' ⟨rfl, rfl⟩
    clear r7 r3 q2
    cases x3
    · go_wp2
      go_ret
      exact ⟨rfl, below_drewN HB0.out _⟩
    have r5 := HD.out.1.at 5 rfl
    obtain ⟨-, -, -, -, q4, -, -, -, -, -⟩ := HD.out.2.1
    go_wp2_with fail
    refine (m5.out _).mono ?_
    rintro e w' ⟨rfl, rfl⟩
    clear r5 q4
    cases x5
    · go_wp2
      go_ret
      exact ⟨rfl, below_drewN HB0.out _⟩
    obtain ⟨y0, y1, y2, y3, y4, y5, y6⟩ := HD.out.1.years
    obtain ⟨-, q1, -, -, -, -, -, -, -, -⟩ := HD.out.2.1
    have hsu := hsub.out
    go_wp2_with fail
    refine (cw.out _).mono ?_
    rintro e w1 ⟨rfl, hB1⟩
    have HD1 := hid (HD.out.keep ((below_drewN (Below.refl _ _) _).trans hB1))
    clear y0 y1 y2 y3 y4 y5 y6 q1 hsu hB1
    cases xw
    · go_wp2
      go_ret
      exact ⟨rfl, HD1.out.2.2.1⟩
    obtain ⟨o0, o1, o2, o3, o4, o5, o6, o7, o8, o9⟩ := HD1.out.1.ord
    obtain ⟨q0, q1, q2, q3, q4, q5, q6, q7, q8, q9⟩ := HD1.out.2.1
    go_wp2_with fail
    refine (cn.out _).mono ?_
    rintro e w2 ⟨rfl, hB2⟩
    have HD2 := hid (HD1.out.keep hB2)
    clear hB2 o0 o1 o2 o3 o4 o5 o6 o7 o8 o9 q0 q1 q2 q3 q4 q5 q6 q7 q8 q9
    go_wp2
    go_ret
    exact ⟨rfl, HD2.out.2.2.1⟩
end Go.Proofs.YtgiecadlliblpaaGreat
namespace Go.Proofs.YtgiecadlliblpaaGreat
open Go.RowKit
set_option linter.unusedVariables false

abbrev D2S (w : World) (c : Cl) (s : Nat → Int) (b1 b2 : Nat) (fv : Value) (W : World) : Prop :=
  ClB W b1 c ∧ ShS W w.heap.size s ∧ W.cell? ⟨b2, 0, none⟩ = some fv ∧ Below w.heap.size w W ∧ w.heap.size < W.heap.size
theorem D2S.keep {w W W' : World} {c : Cl} {s : Nat → Int} {b1 b2 : Nat} {fv : Value} (h : D2S w c s b1 b2 fv W) (l1 : b1 < w.heap.size) (l2 : b2 < w.heap.size) (hb : Below W.heap.size W W') : D2S w c s b1 b2 fv W' := by
  obtain ⟨h1, h2, h3, h4, h5⟩ := h
  exact ⟨h1.below hb (by omega), h2.below hb h5, (hb.cell (p := ⟨b2, 0, none⟩) (by simp only []; omega)).trans h3, h4.trans (hb.mono (by omega)), Nat.lt_of_lt_of_le h5 hb.size⟩
theorem d2S_new (w : World) (c : Cl) (s : Nat → Int) (b1 b2 : Nat) (fv : Value) (t : TypeId) (h1 : ClB w b1 c) (l1 : b1 < w.heap.size) (h2 : w.cell? ⟨b2, 0, none⟩ = some fv) (l2 : b2 < w.heap.size) : D2S w c s b1 b2 fv (w.alloc (.cells (shList s).toArray t)) := by
  have hb := below_new (o := .cells (shList s).toArray t) (Below.refl w.heap.size w) (Nat.le_refl _)
  exact ⟨h1.below hb l1, shC_new w t _ _ _ _ _ _ _ _ _ _, (hb.cell (p := ⟨b2, 0, none⟩) l2).trans h2, hb, by simp⟩

set_option maxRecDepth 100000 in
set_option maxHeartbeats 6400000 in
theorem CD2_any (c : Cl) (n : Int) (b1 b2 lo : Nat) (fv : Value) (w : World) (hc : c.Ok) (ho : c.oin = 0 ∨ c.oin = 1 ∨ c.oin = 2) (h0 : 0 ≤ n) (h1 : n < 146097) (hcl : ClB w b1 c) (l1 : b1 < w.heap.size)
    (hfv : w.cell? ⟨b2, 0, none⟩ = some fv) (l2 : b2 < w.heap.size) (hu : UDV w lo c.unit c.step c.anchor fv) :
    Calls Tryz.prog 93 #[shN n, .pointer (some ⟨b1, 0, none⟩), .pointer (some ⟨b2, 0, none⟩)] w fun e w' => e = .returned (.bool (dateB c (shF n) && dayOn c.unit c.step c.anchor n)) ∧ Below w.heap.size w w' := by
  have hcall : ∃ g cap, fv = .func (.func g) #[] cap ∧ (g = 103 ∧ cap = #[] ∨ g = 104 ∧ cap = #[] ∨ ∃ b3 b7 b4 : Nat, g = 105 ∧ cap = #[.pointer (some ⟨b3, 0, none⟩), .pointer (some ⟨b7, 0, none⟩), .pointer (some ⟨b4, 0, none⟩)]) ∧
      ∀ W, Below w.heap.size w W → Calls Tryz.prog g (#[shq (shF n)] ++ cap) W fun e w' => e = .returned (.bool (dayOn c.unit c.step c.anchor n)) ∧ Below W.heap.size W w' := by
    rw [shq_shF]
    rcases hu with ⟨h, rfl⟩ | ⟨ha, hb, hz, rfl⟩ | ⟨ha, hb, hz, b3, b7, b4, rfl, hB, -, -, -⟩
    · refine ⟨_, _, rfl, .inl ⟨rfl, rfl⟩, fun W _ => ?_⟩
      have e : dayOn c.unit c.step c.anchor n = false := by
        unfold dayOn
        rcases h with h | h
        · rw [h]; rfl
        · rw [decide_eq_false (by omega : ¬ 1 ≤ c.step)]; simp
      rw [e]
      exact UD1_any n W
    · refine ⟨_, _, rfl, .inr (.inl ⟨rfl, rfl⟩), fun W _ => ?_⟩
      have e : dayOn c.unit c.step c.anchor n = true := by
        unfold dayOn
        rw [ha, decide_eq_true hb, decide_eq_true hz]; rfl
      rw [e]
      exact UD2_any n W
    · refine ⟨_, _, rfl, .inr (.inr ⟨b3, b7, b4, rfl, rfl⟩), fun W hW => ?_⟩
      have hun : 0 ≤ c.unit ∧ c.unit ≤ 6 := by
        have := ha
        simp only [whichB, unB, Bool.and_eq_true, decide_eq_true_eq] at this
        exact this.1
      have hbd := whichI_bd c.unit c.anchor
      by_cases hs1 : c.step = 1
      · have e : dayOn c.unit c.step c.anchor n = true := by
          unfold dayOn
          rw [ha, decide_eq_true hb, decide_eq_true (.inr hs1)]; rfl
        have e2 : stepB c.step (whD c.unit n - whichI c.unit c.anchor) = true := by rw [stepB, hs1]; simp
        rw [e, ← e2]
        exact UD3_any n c.unit (whichI c.unit c.anchor) c.step b3 b7 b4 W h0 h1 (sizeU_day hz hun.1) hun.2 hb hc.step.2 hbd.1 hbd.2 (hB.below hW)
      · have e : dayOn c.unit c.step c.anchor n = stepB c.step (whD c.unit n - whichI c.unit c.anchor) := by
          unfold dayOn
          rw [ha, decide_eq_true hb, decide_eq_false (by omega : ¬ (0 < sizeU c.unit ∨ c.step = 1))]; simp
        rw [e]
        exact UD3_any n c.unit (whichI c.unit c.anchor) c.step b3 b7 b4 W h0 h1 (sizeU_day hz hun.1) hun.2 hb hc.step.2 hbd.1 hbd.2 (hB.below hW)
  obtain ⟨xd, hxd⟩ : ∃ x, dayOn c.unit c.step c.anchor n = x := ⟨_, rfl⟩
  have hyr := shF_yr h0 h1
  have hwk := shF_wk n
  rw [hxd] at hcall ⊢
  rw [← shq_shF]
  obtain ⟨s, hs⟩ : ∃ s, shF n = s := ⟨_, rfl⟩
  rw [hs] at hcall hyr hwk ⊢
  clear hxd hs h0 h1 hu
  obtain ⟨g, cap, rfl, hg, hcall⟩ := hcall
  have cU := hid hcall
  clear hcall
  have m3 := hid (fun W => Has_any (c.m 3) (s 2) W (hc.m 3 (by omega)))
  have m4 := hid (fun W => Has_any (c.m 4) (s 3) W (hc.m 4 (by omega)))
  have m5 := hid (fun W => Has_any (c.m 5) (s 4) W (hc.m 5 (by omega)))
  have m6 := hid (fun W => Has_any (c.m 6) (s 5) W (hc.m 6 (by omega)))
  have cn := hid (fun W => CNth_any c.oin c.oback c.od s W ho hc.od hwk)
  have cw := hid (fun W => WHas_any c.ys (s 1 - 1970) W hc.ys)
  have hsub := hid (IntWalk.i64_in (s 1 - 1970) (by omega))
  have hr : Hid (dateB c s = (domB c s && (hasB (c.m 3) (s 2) && (hasB (c.m 5) (s 4) && (hasW c.ys (s 1 - 1970) && nthB c.oin c.oback c.od s))))) := rfl
  rw [hr.out, domB]
  rw [shq] at cn cU ⊢
  clear hr hc ho hwk hyr
  obtain ⟨x3, hx3⟩ : ∃ b, hasB (c.m 3) (s 2) = b := ⟨_, rfl⟩
  obtain ⟨x4, hx4⟩ : ∃ b, hasB (c.m 4) (s 3) = b := ⟨_, rfl⟩
  obtain ⟨x5, hx5⟩ : ∃ b, hasB (c.m 5) (s 4) = b := ⟨_, rfl⟩
  obtain ⟨x6, hx6⟩ : ∃ b, hasB (c.m 6) (s 5) = b := ⟨_, rfl⟩
  obtain ⟨xw, hxw⟩ : ∃ b, hasW c.ys (s 1 - 1970) = b := ⟨_, rfl⟩
  obtain ⟨xn, hxn⟩ : ∃ b, nthB c.oin c.oback c.od s = b := ⟨_, rfl⟩
  rw [hx3] at m3 ⊢
  rw [hx4] at m4 ⊢
  rw [hx5] at m5 ⊢
  rw [hx6] at m6 ⊢
  rw [hxw] at cw ⊢
  rw [hxn] at cn ⊢
  obtain ⟨xo, hxo⟩ : ∃ b, c.or = b := ⟨_, rfl⟩
  have Hxo := hid hxo
  rw [hxo]
  clear hx3 hx4 hx5 hx6 hxw hxn hxo
  obtain ⟨W0, hW0⟩ : ∃ W0, w.alloc (.cells (shList s).toArray 53) = W0 := ⟨_, rfl⟩
  have HD : Hid (D2S w c s b1 b2 (.func (.func g) #[] cap) W0) := by rw [← hW0]; exact d2S_new w c s b1 b2 _ _ hcl l1 hfv l2
  have HW0 := hid hW0
  have Hk : Hid (∀ W W', D2S w c s b1 b2 (.func (.func g) #[] cap) W → Below W.heap.size W W' → D2S w c s b1 b2 (.func (.func g) #[] cap) W') := fun W W' h hb => h.keep l1 l2 hb
  clear hW0 hcl l1 hfv l2
  go_enter Tryz.func93, Tryz.ntmps93
  go_wp2_with fail
  rw [HW0.out]
  have r4 := HD.out.1.at 4 rfl
  have r6 := HD.out.1.at 6 rfl
  obtain ⟨-, -, -, q3, -, q5, -, -, -, -⟩ := HD.out.2.1
  go_quiet (first
    | (go_at_call 62; with_reducible refine (m4.out _).mono ?_; exact fun _ _ h => ⟨h.1, _, h.2.symm⟩)
    | (go_at_call 62; with_reducible refine (m6.out _).mono ?_; exact fun _ _ h => ⟨h.1, _, h.2.symm⟩))
  clear r4 r6 q3 q5 m4 m6
  have HB0 : Hid (Below w.heap.size w W0) := HD.out.2.2.2.1
  have r7 := HD.out.1.at 7 rfl
  have r3 := HD.out.1.at 3 rfl
  obtain ⟨-, -, q2, -, -, -, -, -, -, -⟩ := HD.out.2.1
  rw [Hxo.out] at r7
  cases xo <;> cases x4 <;> cases x6
  all_goals go_wp2_with fail
  all_goals try
    go_ret
    exact ⟨rfl, below_drewN HB0.out _⟩
  all_goals
    refine (m3.out _).mono ?_
    rintro e w' ⟨rfl, rfl⟩
    clear r7 r3 q2
    cases x3
    · go_wp2
      go_ret
      exact ⟨rfl, below_drewN HB0.out _⟩
    have r5 := HD.out.1.at 5 rfl
    obtain ⟨-, -, -, -, q4, -, -, -, -, -⟩ := HD.out.2.1
    go_wp2_with fail
    refine (m5.out _).mono ?_
    rintro e w' ⟨rfl, rfl⟩
    clear r5 q4
    cases x5
    · go_wp2
      go_ret
      exact ⟨rfl, below_drewN HB0.out _⟩
    obtain ⟨y0, y1, y2, y3, y4, y5, y6⟩ := HD.out.1.years
    obtain ⟨-, q1, -, -, -, -, -, -, -, -⟩ := HD.out.2.1
    have hsu := hsub.out
    go_wp2_with fail
    refine (cw.out _).mono ?_
    rintro e w1 ⟨rfl, hB1⟩
    have HD1 := hid (Hk.out _ _ HD.out ((below_drewN (Below.refl _ _) _).trans hB1))
    clear y0 y1 y2 y3 y4 y5 y6 q1 hsu hB1
    cases xw
    · go_wp2
      go_ret
      exact ⟨rfl, HD1.out.2.2.2.1⟩
    obtain ⟨o0, o1, o2, o3, o4, o5, o6, o7, o8, o9⟩ := HD1.out.1.ord
    obtain ⟨q0, q1, q2, q3, q4, q5, q6, q7, q8, q9⟩ := HD1.out.2.1
    go_wp2_with fail
    refine (cn.out _).mono ?_
    rintro e w2 ⟨rfl, hB2⟩
    have HD2 := hid (Hk.out _ _ HD1.out hB2)
    clear hB2 o0 o1 o2 o3 o4 o5 o6 o7 o8 o9 q0 q1 q2 q3 q4 q5 q6 q7 q8 q9
    cases xn
    · go_wp2
      go_ret
      exact ⟨rfl, HD2.out.2.2.2.1⟩
    have hfu := HD2.out.2.2.1
    obtain ⟨q0, q1, q2, q3, q4, q5, q6, q7, q8, q9⟩ := HD2.out.2.1
    rcases hg with ⟨rfl, rfl⟩ | ⟨rfl, rfl⟩ | ⟨b3, b7, b4, rfl, rfl⟩
    all_goals
      go_wp2_with fail
      refine (cU.out _ HD2.out.2.2.2.1).mono ?_
      rintro e w3 ⟨rfl, hB3⟩
      have HD3 := hid (Hk.out _ _ HD2.out hB3)
      clear hfu q0 q1 q2 q3 q4 q5 q6 q7 q8 q9 hB3
      go_wp2
      go_ret
      exact ⟨rfl, HD3.out.2.2.2.1⟩
end Go.Proofs.YtgiecadlliblpaaGreat

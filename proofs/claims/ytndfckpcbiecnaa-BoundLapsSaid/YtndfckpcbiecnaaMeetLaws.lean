/-
  What clauses have together: the law of clause.Meet.
  Lists of clauses that meet.
-/
import Derived.Test.YtndfckpcbiecnaaClFullLaw
import Derived.Test.YtndfckpcbiecnaaWideBothFun
namespace Go.Proofs.Ytndfckpcbiecnaa
open Go.RowKit
set_option linter.unusedVariables false

def hasOrd (c : Cl) : Bool := !ordSame c.oin c.oback c.od 0 false (fun _ => 0)
def bothCl (a b : Cl) : Cl := { a with m := fun i => a.m i &&& b.m i, ys := bothW [a.ys, b.ys], fr := max a.fr b.fr, un := min a.un b.un }
def ordCl (o c : Cl) : Cl := { o with oin := c.oin, oback := c.oback, od := c.od }
def unitCl (o c : Cl) : Cl := { o with unit := c.unit, step := c.step, anchor := c.anchor }
def ordM (out c : Cl) : Cl := if hasOrd c then ordCl (bothCl out c) c else bothCl out c
def stepM (out c : Cl) : Cl := if 1 < c.step then unitCl (ordM out c) c else ordM out c
/-- may a clause not be met with -/
def refuse (out c : Cl) : Bool := !mayC c || (c.or || ((hasOrd c && hasOrd out) || (decide (1 < c.step) && decide (1 < out.step))))
theorem stepM_m (o c : Cl) : (stepM o c).m = fun i => o.m i &&& c.m i := by unfold stepM ordM; split <;> split <;> rfl
theorem stepM_or (o c : Cl) : (stepM o c).or = o.or := by unfold stepM ordM; split <;> split <;> rfl
theorem stepM_ys (o c : Cl) : (stepM o c).ys = bothW [o.ys, c.ys] := by unfold stepM ordM; split <;> split <;> rfl
theorem stepM_fr (o c : Cl) : (stepM o c).fr = max o.fr c.fr := by unfold stepM ordM; split <;> split <;> rfl
theorem stepM_un (o c : Cl) : (stepM o c).un = min o.un c.un := by unfold stepM ordM; split <;> split <;> rfl
theorem stepM_oin (o c : Cl) : (stepM o c).oin = if hasOrd c then c.oin else o.oin := by unfold stepM ordM; split <;> split <;> rfl
theorem stepM_oback (o c : Cl) : (stepM o c).oback = if hasOrd c then c.oback else o.oback := by unfold stepM ordM; split <;> split <;> rfl
theorem stepM_od (o c : Cl) : (stepM o c).od = if hasOrd c then c.od else o.od := by unfold stepM ordM; split <;> split <;> rfl
theorem stepM_unit (o c : Cl) : (stepM o c).unit = if 1 < c.step then c.unit else o.unit := by unfold stepM ordM; split <;> split <;> rfl
theorem stepM_step (o c : Cl) : (stepM o c).step = if 1 < c.step then c.step else o.step := by unfold stepM ordM; split <;> split <;> rfl
theorem stepM_anchor (o c : Cl) : (stepM o c).anchor = if 1 < c.step then c.anchor else o.anchor := by unfold stepM ordM; split <;> split <;> rfl
theorem mayC_iff (c : Cl) : mayC c = true ↔ (mask7B c.m = true ∧ ordB c.oin c.oback c.od = true ∧ eqW (inW c.ys) c.ys = true ∧ unB c.unit = true ∧ 1 ≤ c.step ∧ winB c.anchor = true) := by
  simp only [mayC, Bool.and_eq_true, decide_eq_true_eq]
theorem bitsB_and {x y : Nat} {lo hi : Int} (h : bitsB x lo hi = true) : bitsB (x &&& y) lo hi = true := by
  rw [bitsB_iff] at h ⊢
  intro k hk hb
  rw [Nat.testBit_and, Bool.and_eq_true] at hb
  exact h k hk hb.1
theorem mask7_and {a b : Nat → Nat} (h : mask7B a = true) : mask7B (fun i => a i &&& b i) = true := by
  simp only [mask7B, Bool.and_eq_true] at h ⊢
  obtain ⟨h0, h1, h2, h3, h4, h5, h6⟩ := h
  exact ⟨bitsB_and h0, bitsB_and h1, bitsB_and h2, bitsB_and h3, bitsB_and h4, bitsB_and h5, bitsB_and h6⟩
theorem both_two (s t : Nat → Nat) (i : Nat) : bothW [s, t] i = (fullW i &&& s i) &&& t i := rfl
theorem both_may (s t : Nat → Nat) : eqW (inW (bothW [s, t])) (bothW [s, t]) = true := by
  rw [eqW_iff]
  intro i hi
  rw [inW, both_two]
  apply Nat.eq_of_testBit_eq
  intro k
  simp only [Nat.testBit_and]
  cases (fullW i).testBit k <;> cases (s i).testBit k <;> cases (t i).testBit k <;> rfl
theorem hasB_and (x y : Nat) (n : Int) : hasB (x &&& y) n = (hasB x n && hasB y n) := by
  rw [hasB, hasB, hasB, Nat.testBit_and]
  cases decide (0 ≤ n) <;> simp
theorem hasW_both (s t : Nat → Nat) (n : Int) : hasW (bothW [s, t]) n = (hasW s n && hasW t n) := by
  rw [hasW, hasW, hasW]
  cases hm : mayB n
  · simp
  · simp only [mayB, Bool.and_eq_true, decide_eq_true_eq] at hm
    have hf := hasW_full hm.1 hm.2
    rw [hasW, mayB, decide_eq_true hm.1, decide_eq_true hm.2, Bool.true_and, Bool.true_and] at hf
    rw [Bool.true_and, Bool.true_and, Bool.true_and, bitW, both_two, Nat.testBit_and, Nat.testBit_and]
    rw [bitW] at hf
    rw [hf, Bool.true_and]; rfl
theorem betB_both (f u f' u' t : Int) : betB (max f f') (min u u') t = (betB f u t && betB f' u' t) := by
  rw [betB, betB, betB, Bool.eq_iff_iff]
  simp only [Bool.and_eq_true, decide_eq_true_eq]
  omega
theorem todIn_and (s : Int) (h m x h' m' x' : Nat) : todIn s (h &&& h') (m &&& m') (x &&& x') = (todIn s h m x && todIn s h' m' x') := by
  rw [todIn, todIn, todIn, hasB_and, hasB_and, hasB_and]
  generalize dayB s = a0
  generalize hasB h (s / 3600) = a1
  generalize hasB m (s / 60 % 60) = a2
  generalize hasB x (s % 60) = a3
  generalize hasB h' (s / 3600) = b1
  generalize hasB m' (s / 60 % 60) = b2
  generalize hasB x' (s % 60) = b3
  cases a0 <;> cases a1 <;> cases a2 <;> cases a3 <;> simp
theorem ord_none {c : Cl} (h : hasOrd c = false) : c.oin = 0 ∧ c.oback = false ∧ ∀ i, i < 8 → c.od i = 0 := by
  rw [hasOrd, Bool.not_eq_false', ordSame_true] at h
  exact h
theorem nth_none {c : Cl} (h : hasOrd c = false) (s : Nat → Int) : nthB c.oin c.oback c.od s = true := by
  rw [nthB, if_pos (ord_none h).1]
theorem on_one {u a t : Int} (hu : unB u = true) (ha : winB a = true) (ht : winB t = true) : onB u 1 a t = true := by
  rw [onB, (which_yes hu ha).1, (which_yes hu ht).1, stepB_one]; rfl
theorem dayOn_one {u a n : Int} (hu : unB u = true) (ha : winB a = true) : dayOn u 1 a n = true := by
  rw [dayOn, (which_yes hu ha).1, decide_eq_true (.inr rfl : 0 < sizeU u ∨ (1 : Int) = 1)]; rfl
/-- what an instant asks of a clause that may be -/
def coreC (c : Cl) (t : Int) : Bool := betB c.fr c.un t && (todIn (t % 86400) (c.m 2) (c.m 1) (c.m 0) && (onB c.unit c.step c.anchor t && (dateB c (shF (t / 86400)) && dayOn c.unit c.step c.anchor (t / 86400))))
theorem has_core {c : Cl} {t : Int} (h : mayC c = true) : hasC c t = (winB t && coreC c t) := by
  rw [hasC, h, dayC, h, coreC, Bool.true_and, Bool.true_and]
theorem refuse_no {o c : Cl} (h : refuse o c = false) : mayC c = true ∧ c.or = false ∧ (hasOrd c = true → hasOrd o = false) ∧ (1 < c.step → ¬ 1 < o.step) := by
  simp only [refuse, Bool.or_eq_false_iff, Bool.not_eq_false', Bool.and_eq_false_iff, decide_eq_false_iff_not] at h
  obtain ⟨h1, h2, h3, h4⟩ := h
  refine ⟨h1, h2, fun ho => ?_, fun hs => ?_⟩
  · rcases h3 with h3 | h3
    · rw [ho] at h3; cases h3
    · exact h3
  · rcases h4 with h4 | h4
    · exact absurd hs h4
    · exact h4
theorem may_stepM {o c : Cl} (ho : mayC o = true) (hc : mayC c = true) : mayC (stepM o c) = true := by
  rw [mayC_iff] at ho hc ⊢
  obtain ⟨a1, a2, a3, a4, a5, a6⟩ := ho
  obtain ⟨b1, b2, b3, b4, b5, b6⟩ := hc
  rw [stepM_m, stepM_ys, stepM_oin, stepM_oback, stepM_od, stepM_unit, stepM_step, stepM_anchor]
  refine ⟨mask7_and a1, ?_, both_may _ _, ?_, ?_, ?_⟩
  · split <;> assumption
  all_goals split <;> assumption
theorem core_stepM {o c : Cl} {t : Int} (ho : mayC o = true) (hr : refuse o c = false) (hor : o.or = false) (ht : winB t = true) : coreC (stepM o c) t = (coreC o t && coreC c t) := by
  obtain ⟨hc, hcor, h3, h4⟩ := refuse_no hr
  obtain ⟨-, os, ou, oa⟩ := may_ord ho
  obtain ⟨-, cs, cu, ca⟩ := may_ord hc
  have e1 : betB (stepM o c).fr (stepM o c).un t = (betB o.fr o.un t && betB c.fr c.un t) := by rw [stepM_fr, stepM_un, betB_both]
  have e2 : todIn (t % 86400) ((stepM o c).m 2) ((stepM o c).m 1) ((stepM o c).m 0) = (todIn (t % 86400) (o.m 2) (o.m 1) (o.m 0) && todIn (t % 86400) (c.m 2) (c.m 1) (c.m 0)) := by
    rw [stepM_m]; exact todIn_and _ _ _ _ _ _ _
  have e3 : onB (stepM o c).unit (stepM o c).step (stepM o c).anchor t = (onB o.unit o.step o.anchor t && onB c.unit c.step c.anchor t) := by
    rw [stepM_unit, stepM_step, stepM_anchor]
    by_cases h : 1 < c.step
    · have := h4 h
      rw [if_pos h, if_pos h, if_pos h, show o.step = 1 by omega, on_one ou oa ht, Bool.true_and]
    · rw [if_neg h, if_neg h, if_neg h, show c.step = 1 by omega, on_one cu ca ht, Bool.and_true]
  have e4 : dayOn (stepM o c).unit (stepM o c).step (stepM o c).anchor (t / 86400) = (dayOn o.unit o.step o.anchor (t / 86400) && dayOn c.unit c.step c.anchor (t / 86400)) := by
    rw [stepM_unit, stepM_step, stepM_anchor]
    by_cases h : 1 < c.step
    · have := h4 h
      rw [if_pos h, if_pos h, if_pos h, show o.step = 1 by omega, dayOn_one ou oa, Bool.true_and]
    · rw [if_neg h, if_neg h, if_neg h, show c.step = 1 by omega, dayOn_one cu ca, Bool.and_true]
  have e5 : nthB (stepM o c).oin (stepM o c).oback (stepM o c).od (shF (t / 86400)) = (nthB o.oin o.oback o.od (shF (t / 86400)) && nthB c.oin c.oback c.od (shF (t / 86400))) := by
    rw [stepM_oin, stepM_oback, stepM_od]
    cases h : hasOrd c
    · simp only [Bool.false_eq_true, if_false]
      rw [nth_none h, Bool.and_true]
    · simp only [if_true]
      rw [nth_none (h3 h), Bool.true_and]
  have e6 : dateB (stepM o c) (shF (t / 86400)) = (dateB o (shF (t / 86400)) && dateB c (shF (t / 86400))) := by
    rw [dateB, dateB, dateB, domB, domB, domB, e5, stepM_or, hor, hcor, stepM_m, stepM_ys, hasW_both]
    simp only [Bool.false_eq_true, if_false, hasB_and]
    ac_rfl
  rw [coreC, coreC, coreC, e1, e2, e3, e4, e6]
  ac_rfl
theorem has_stepM {o c : Cl} (t : Int) (ho : mayC o = true) (hr : refuse o c = false) (hor : o.or = false) : hasC (stepM o c) t = (hasC o t && hasC c t) := by
  have hc := (refuse_no hr).1
  rw [has_core (may_stepM ho hc), has_core ho, has_core hc]
  cases ht : winB t
  · rfl
  · rw [core_stepM ho hr hor ht]; rfl
end Go.Proofs.Ytndfckpcbiecnaa
namespace Go.Proofs.Ytndfckpcbiecnaa
open Go.RowKit
set_option linter.unusedVariables false

def meetK (l : List Cl) : Option Cl := l.foldl (fun o c => o.bind fun out => if refuse out c then none else some (stepM out c)) (some fullCl)
theorem meetK_snoc (l : List Cl) (c : Cl) : meetK (l ++ [c]) = (meetK l).bind fun out => if refuse out c then none else some (stepM out c) := by
  simp only [meetK, List.foldl_append, List.foldl_cons, List.foldl_nil]
def cntO (l : List Cl) : Nat := (l.filter hasOrd).length
def cntS (l : List Cl) : Nat := (l.filter (fun c => decide (1 < c.step))).length
theorem cntO_snoc (l : List Cl) (c : Cl) : cntO (l ++ [c]) = cntO l + if hasOrd c then 1 else 0 := by
  rw [cntO, cntO, List.filter_append, List.length_append]
  cases h : hasOrd c <;> simp [h]
theorem cntS_snoc (l : List Cl) (c : Cl) : cntS (l ++ [c]) = cntS l + if 1 < c.step then 1 else 0 := by
  rw [cntS, cntS, List.filter_append, List.length_append]
  by_cases h : 1 < c.step <;> simp [h]
def fineB (l : List Cl) : Bool := l.all (fun c => mayC c && !c.or)
theorem fineB_snoc (l : List Cl) (c : Cl) : fineB (l ++ [c]) = (fineB l && (mayC c && !c.or)) := by
  simp [fineB]
def meetB (l : List Cl) : Bool := fineB l && (decide (cntO l ≤ 1) && decide (cntS l ≤ 1))
structure MInv (l : List Cl) (o : Cl) : Prop where
  ok : o.Ok
  may : mayC o = true
  or : o.or = false
  fine : fineB l = true
  ords : cntO l = if hasOrd o then 1 else 0
  steps : cntS l = if 1 < o.step then 1 else 0
  has : ∀ t, hasC o t = (winB t && l.all (fun c => hasC c t))
theorem ordM_has (o c : Cl) : hasOrd (stepM o c) = (hasOrd c || hasOrd o) := by
  cases h : hasOrd c
  · rw [hasOrd, stepM_oin, stepM_oback, stepM_od, h]; rfl
  · rw [hasOrd, stepM_oin, stepM_oback, stepM_od, h]; exact h
theorem stepM_ok {o c : Cl} (ho : o.Ok) (hc : c.Ok) : (stepM o c).Ok := by
  have h1 := ho.fr
  have h2 := hc.fr
  have h3 := ho.un
  have h4 := hc.un
  refine ⟨fun i hi => ?_, fun i hi => ?_, fun i hi => ?_, ?_, ?_, ?_, ?_, ?_, ?_⟩
  · rw [stepM_m]
    exact Nat.lt_of_le_of_lt Nat.and_le_left (ho.m i hi)
  · rw [stepM_od]; split
    · exact hc.od i hi
    · exact ho.od i hi
  · rw [stepM_ys]; exact bothW_lt _ _
  · rw [stepM_oin]; split
    · exact hc.oin
    · exact ho.oin
  · rw [stepM_unit]; split
    · exact hc.unit
    · exact ho.unit
  · rw [stepM_step]; split
    · exact hc.step
    · exact ho.step
  · rw [stepM_anchor]; split
    · exact hc.anchor
    · exact ho.anchor
  · rw [stepM_fr]; unfold i64B at *; constructor <;> omega
  · rw [stepM_un]; unfold i64B at *; constructor <;> omega
theorem minv_nil : MInv [] fullCl := by
  refine ⟨full_ok, may_full, rfl, rfl, ?_, ?_, fun t => ?_⟩
  · have h : hasOrd fullCl = false := by kernel_rfl
    rw [h]; rfl
  · have h : ¬ 1 < fullCl.step := by show ¬ (1 : Int) < 1; omega
    rw [if_neg h]; rfl
  · cases h : winB t
    · rw [hasC, h]; rfl
    · rw [full_has h]; rfl
theorem minv_step {l : List Cl} {o c : Cl} (h : MInv l o) (hc : c.Ok) (hr : refuse o c = false) : MInv (l ++ [c]) (stepM o c) := by
  obtain ⟨r1, r2, r3, r4⟩ := refuse_no hr
  refine ⟨stepM_ok h.ok hc, may_stepM h.may r1, by rw [stepM_or]; exact h.or, by rw [fineB_snoc, h.fine, r1, r2]; rfl, ?_, ?_, fun t => ?_⟩
  · rw [cntO_snoc, ordM_has, h.ords]
    cases e : hasOrd c
    · simp
    · rw [r3 e]; simp
  · rw [cntS_snoc, stepM_step, h.steps]
    by_cases e : 1 < c.step
    · rw [if_pos e, if_neg (r4 e), if_pos e, if_pos e]
    · rw [if_neg e, if_neg e, Nat.add_zero]
  · rw [has_stepM t h.may hr h.or, h.has, List.all_append, List.all_cons, List.all_nil, Bool.and_true, Bool.and_assoc]
theorem meetB_snoc {l : List Cl} {c : Cl} (h : meetB l = false) : meetB (l ++ [c]) = false := by
  rw [meetB, fineB_snoc, cntO_snoc, cntS_snoc]
  rw [Bool.eq_false_iff] at h ⊢
  intro k
  apply h
  simp only [meetB, Bool.and_eq_true, decide_eq_true_eq] at k ⊢
  obtain ⟨⟨k1, -⟩, k2, k3⟩ := k
  exact ⟨k1, by omega, by omega⟩
theorem meetB_no {l : List Cl} {o c : Cl} (h : MInv l o) (hr : refuse o c = true) : meetB (l ++ [c]) = false := by
  rw [Bool.eq_false_iff]
  intro k
  simp only [meetB, fineB_snoc, cntO_snoc, cntS_snoc, Bool.and_eq_true, decide_eq_true_eq, Bool.not_eq_true'] at k
  obtain ⟨⟨-, k1, k2⟩, k3, k4⟩ := k
  rw [h.ords] at k3
  rw [h.steps] at k4
  rw [refuse, k1, k2] at hr
  simp only [Bool.not_true, Bool.false_or, Bool.or_eq_true, Bool.and_eq_true, decide_eq_true_eq] at hr
  rcases hr with ⟨e1, e2⟩ | ⟨e1, e2⟩
  · rw [e1, e2] at k3; simp at k3
  · rw [if_pos e1, if_pos e2] at k4; omega
theorem meetB_yes {l : List Cl} {o : Cl} (h : MInv l o) : meetB l = true := by
  rw [meetB, h.fine, h.ords, h.steps]
  cases hasOrd o <;> by_cases e : 1 < o.step <;> simp [e]
theorem meet_inv (l : List Cl) (hl : ∀ c ∈ l, c.Ok) : ∀ k, k ≤ l.length → (∃ o, meetK (l.take k) = some o ∧ MInv (l.take k) o) ∨ (meetK (l.take k) = none ∧ meetB (l.take k) = false)
  | 0, _ => .inl ⟨fullCl, rfl, minv_nil⟩
  | k + 1, hk => by
    have hk' : k < l.length := by omega
    rw [take_snoc l k hk']
    rcases meet_inv l hl k (by omega) with ⟨o, h1, h2⟩ | ⟨h1, h2⟩
    · cases hr : refuse o l[k]
      · exact .inl ⟨stepM o l[k], by rw [meetK_snoc, h1, Option.bind_some, hr]; rfl, minv_step h2 (hl _ (List.getElem_mem hk')) hr⟩
      · exact .inr ⟨by rw [meetK_snoc, h1, Option.bind_some, hr]; rfl, meetB_no h2 hr⟩
    · exact .inr ⟨by rw [meetK_snoc, h1]; rfl, meetB_snoc h2⟩
theorem meetB_take {l : List Cl} {k : Nat} (hk : k ≤ l.length) (h : meetB (l.take k) = false) : meetB l = false := by
  have : ∀ d, k + d ≤ l.length → meetB (l.take (k + d)) = false := by
    intro d
    induction d with
    | zero => intro _; exact h
    | succ d ih =>
      intro hd
      rw [show k + (d + 1) = (k + d) + 1 by omega, take_snoc l (k + d) (by omega)]
      exact meetB_snoc (ih (by omega))
  have e := this (l.length - k) (by omega)
  rwa [show k + (l.length - k) = l.length by omega, List.take_length] at e
theorem meetK_take {l : List Cl} {k : Nat} (hk : k ≤ l.length) (h : meetK (l.take k) = none) : meetK l = none := by
  have : ∀ d, k + d ≤ l.length → meetK (l.take (k + d)) = none := by
    intro d
    induction d with
    | zero => intro _; exact h
    | succ d ih =>
      intro hd
      rw [show k + (d + 1) = (k + d) + 1 by omega, take_snoc l (k + d) (by omega), meetK_snoc, ih (by omega)]; rfl
  have e := this (l.length - k) (by omega)
  rwa [show k + (l.length - k) = l.length by omega, List.take_length] at e
end Go.Proofs.Ytndfckpcbiecnaa

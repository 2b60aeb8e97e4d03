/-
  The weekdays of a rule: the mask and the Ord, and the document's.
-/
import Derived.Test.YtndfckpcbiecnaaRuleDyLaw
import Derived.Test.YtndfckpcbiecnaaClSh
namespace Go.Proofs.Ytndfckpcbiecnaa
open Go.RowKit
set_option linter.unusedVariables false

theorem wkM_fold (x : Int) (h0 : 0 ≤ x) (h1 : x < 64) : ∀ (l : List (Int × Int)) (m : Nat), (l.foldl (fun m n => m ||| ofM [n.2]) m).testBit x.toNat = (m.testBit x.toNat || l.any fun n => decide (n.2 = x))
  | [], m => by simp
  | n :: l, m => by
    rw [List.foldl_cons, wkM_fold x h0 h1 l]
    have e : (ofM [n.2]).testBit x.toNat = decide (n.2 = x) := by
      have := ofM_has (l := [n.2]) h0 h1
      rw [hasB, decide_eq_true h0, Bool.true_and] at this
      rw [this]; simp [eq_comm]
    rw [Nat.testBit_or, e, List.any_cons, Bool.or_assoc]
theorem wkM_has {l : List (Int × Int)} {x : Int} (h0 : 0 ≤ x) (h1 : x < 64) : hasB (wkM l) x = l.any fun n => decide (n.2 = x) := by
  rw [hasB, decide_eq_true h0, Bool.true_and, wkM, wkM_fold x h0 h1, Nat.zero_testBit, Bool.false_or]
theorem wkD_fold (j : Nat) (x : Int) (h0 : 0 ≤ x) (h1 : x < 64) : ∀ (l : List (Int × Int)) (m : Nat), (l.foldl (fun m n => if n.2 = (j : Int) then m ||| ofM [max n.1 (-n.1)] else m) m).testBit x.toNat = (m.testBit x.toNat || l.any fun n => decide (n.2 = (j : Int)) && decide (max n.1 (-n.1) = x))
  | [], m => by simp
  | n :: l, m => by
    rw [List.foldl_cons, wkD_fold j x h0 h1 l, List.any_cons]
    by_cases hj : n.2 = (j : Int)
    · have e : (ofM [max n.1 (-n.1)]).testBit x.toNat = decide (max n.1 (-n.1) = x) := by
        have := ofM_has (l := [max n.1 (-n.1)]) h0 h1
        rw [hasB, decide_eq_true h0, Bool.true_and] at this
        rw [this]; simp [eq_comm]
      rw [if_pos hj, Nat.testBit_or, e, decide_eq_true hj, Bool.true_and, Bool.or_assoc]
    · rw [if_neg hj, decide_eq_false hj, Bool.false_and, Bool.false_or]
theorem wkD_has {l : List (Int × Int)} {j : Nat} {x : Int} (h0 : 0 ≤ x) (h1 : x < 64) : hasB (wkD l j) x = l.any fun n => decide (n.2 = (j : Int)) && decide (max n.1 (-n.1) = x) := by
  rw [hasB, decide_eq_true h0, Bool.true_and, wkD, wkD_fold j x h0 h1, Nat.zero_testBit, Bool.false_or]
def atW (r : Ru) (s : Nat → Int) (n : Int) : Int := if 0 < n then (if r.fq = 6 ∧ r.l5.length = 0 then s 8 else s 6) else if n < 0 then (if r.fq = 6 ∧ r.l5.length = 0 then -s 9 else -s 7) else 0
def weekB (r : Ru) (s : Nat → Int) : Bool := if r.l7.length = 0 then decide (r.fq ≠ 4) || decide (s 5 = wdI (r.st / 86400)) else r.l7.any fun x => decide (x.2 = s 5) && decide (x.1 = atW r s x.1)
/-- the parts of the Ord that Week tells -/
def woI (r : Ru) : Int := if checkE r = 0 ∧ outB 0 0 (nsL r) = true then weekIn r else 0
def woB (r : Ru) : Bool := if checkE r = 0 ∧ outB 0 0 (nsL r) = true then weekBk r else false
def woD (r : Ru) (j : Nat) : Nat := if checkE r = 0 ∧ outB 0 0 (nsL r) = true then wkD r.l7 j else 0
theorem weekO_ord (r : Ru) : weekO r = ordv (woI r) (woB r) (woD r) := by
  unfold weekO woI woB woD
  by_cases h : checkE r = 0 ∧ outB 0 0 (nsL r) = true
  · simp only [if_pos h]
  · simp only [if_neg h]; rfl
/-- all above 0, all below 0, or all 0 -/
theorem three_signs {l : List Int} (hm : mixB l = false) : (∀ x ∈ l, x < 0) ∨ (∀ x ∈ l, x = 0) ∨ (∀ x ∈ l, 0 < x) := by
  rw [← sg_head] at hm
  have key : ∀ x ∈ l, sgP (l.headD 0) x = false := fun x hx => by
    rw [← Bool.not_eq_true]; intro e
    have : l.any (sgP (l.headD 0)) = true := List.any_eq_true.2 ⟨x, hx, e⟩
    rw [hm] at this; cases this
  have two : ∀ x ∈ l, (x < 0 ↔ l.headD 0 < 0) ∧ (x = 0 ↔ l.headD 0 = 0) := fun x hx => by
    have := key x hx
    rw [sgP, Bool.or_eq_false_iff, bne_eq_false_iff_eq, bne_eq_false_iff_eq] at this
    refine ⟨decide_eq_decide.1 this.1, ?_⟩
    have h2 := this.2
    rw [Bool.eq_iff_iff] at h2
    simpa using h2
  rcases Int.lt_trichotomy (l.headD 0) 0 with h | h | h
  · exact .inl fun x hx => (two x hx).1.2 h
  · exact .inr (.inl fun x hx => (two x hx).2.2 h)
  · refine .inr (.inr fun x hx => ?_)
    have := two x hx
    have a : ¬ x < 0 := fun e => by have := this.1.1 e; omega
    have b : ¬ x = 0 := fun e => by have := this.2.1 e; omega
    omega
theorem full_week : ∀ n : Nat, n < 8 → 1 ≤ n → (fullCl.m 6).testBit n = true := by decide +kernel
theorem any_congr' {α : Type} {l : List α} {p q : α → Bool} (h : ∀ x ∈ l, p x = q x) : l.any p = l.any q := by
  rw [Bool.eq_iff_iff, List.any_eq_true, List.any_eq_true]
  constructor
  · rintro ⟨x, hx, e⟩; exact ⟨x, hx, by rw [← h x hx]; exact e⟩
  · rintro ⟨x, hx, e⟩; exact ⟨x, hx, by rw [h x hx]; exact e⟩
theorem week_law {r : Ru} {s : Nat → Int} (hc : checkE r = 0) (h5 : 1 ≤ s 5 ∧ s 5 ≤ 7) (h6 : 1 ≤ s 6 ∧ s 6 < 64) (h7 : 1 ≤ s 7 ∧ s 7 < 64) (h8 : 1 ≤ s 8 ∧ s 8 < 64) (h9 : 1 ≤ s 9 ∧ s 9 < 64) :
    (hasB (weekM r) (s 5) && nthB (woI r) (woB r) (woD r) s) = weekB r s := by
  obtain ⟨-, hx, hm, -, -⟩ := weeks_ok (check_ok hc).e7
  rw [weekM, if_pos hc, weekB]
  by_cases hn : r.l7 = []
  · have hout : outB 0 0 (nsL r) = false := by rw [nsL, hn]; rfl
    have hno : ¬ (checkE r = 0 ∧ outB 0 0 (nsL r) = true) := fun e => by rw [hout] at e; cases e.2
    rw [if_pos hn, if_pos (show r.l7.length = 0 by rw [hn]; rfl), nthB, woI, if_neg hno, if_pos rfl, Bool.and_true]
    by_cases h4 : r.fq = 4
    · rw [if_pos h4, ofM_has (by omega) (by omega), decide_eq_false (fun e => e h4 : ¬ r.fq ≠ 4), Bool.false_or]
      simp
    · rw [if_neg h4, hasB_full1 full_week h5.1 (by omega), decide_eq_true (show r.fq ≠ 4 from h4), Bool.true_or]
  · have hl : ¬ r.l7.length = 0 := fun e => hn (List.eq_nil_of_length_eq_zero e)
    rw [if_neg hn, if_neg hl]
    cases ho : outB 0 0 (nsL r)
    · have hno : ¬ (checkE r = 0 ∧ outB 0 0 (nsL r) = true) := fun e => by rw [ho] at e; cases e.2
      rw [if_neg (by simp), wkM_has (by omega) (by omega), nthB, woI, if_neg hno, if_pos rfl, Bool.and_true]
      apply any_congr'
      intro x hxm
      have h0 : x.1 = 0 := by
        have : ¬ outB 0 0 (nsL r) = true := by rw [ho]; simp
        rw [outB, List.any_eq_true] at this
        have : ¬ outP 0 0 x.1 = true := fun e => this ⟨x.1, List.mem_map_of_mem hxm, e⟩
        simp only [outP, Bool.or_eq_true, decide_eq_true_eq] at this
        omega
      rw [h0, show atW r s 0 = 0 by simp [atW], decide_eq_true (rfl : (0 : Int) = 0), Bool.and_true]
    · have hyes : checkE r = 0 ∧ outB 0 0 (nsL r) = true := ⟨hc, ho⟩
      have hne : weekIn r ≠ 0 := by unfold weekIn; split <;> simp
      have hD : ∀ x, 0 ≤ x → x < 64 → hasB (woD r (s 5).toNat) x = r.l7.any fun n => decide (n.2 = s 5) && decide (max n.1 (-n.1) = x) := fun x a b => by
        rw [woD, if_pos hyes, wkD_has a b, Int.toNat_of_nonneg (by omega)]
      have hr : 1 ≤ nthN (weekIn r) (weekBk r) s ∧ nthN (weekIn r) (weekBk r) s < 64 := by
        unfold nthN; split <;> split <;> omega
      rw [if_pos rfl, hasB_full1 full_week h5.1 (by omega), Bool.true_and, nthB, woI, if_pos hyes, if_neg hne, woB, if_pos hyes, hD _ (by omega) hr.2]
      apply any_congr'
      intro x hxm
      have hmem : x.1 ∈ nsL r := List.mem_map_of_mem hxm
      have hhead : nsL r ≠ [] := fun e => by rw [e] at hmem; cases hmem
      congr 1
      rw [decide_eq_decide]
      have hhm : (nsL r).headD 0 ∈ nsL r := by
        cases h : nsL r with
        | nil => exact absurd h hhead
        | cons a l => simp
      rcases three_signs hm with hs | hs | hs
      · have hb : weekBk r = true := by rw [weekBk]; exact decide_eq_true (hs _ hhm)
        have hx1 := hs _ hmem
        rw [hb, atW, if_neg (by omega), if_pos hx1]
        unfold nthN weekIn
        by_cases hf : r.fq = 6 ∧ r.l5.length = 0
        · rw [if_pos hf, if_pos hf]; simp only [if_neg (by decide : ¬ (2 : Int) = 1), if_true]; omega
        · rw [if_neg hf, if_neg hf]; simp only [if_true]; omega
      · exfalso
        have : outB 0 0 (nsL r) = false := by
          rw [← Bool.not_eq_true]
          intro e
          rw [outB, List.any_eq_true] at e
          obtain ⟨y, hy, hp⟩ := e
          have := hs y hy
          simp only [outP, Bool.or_eq_true, decide_eq_true_eq] at hp
          omega
        rw [ho] at this; cases this
      · have hb : weekBk r = false := by rw [weekBk]; exact decide_eq_false (by have := hs _ hhm; omega)
        have hx1 := hs _ hmem
        rw [hb, atW, if_pos hx1]
        unfold nthN weekIn
        by_cases hf : r.fq = 6 ∧ r.l5.length = 0
        · rw [if_pos hf, if_pos hf]; simp only [if_neg (by decide : ¬ (2 : Int) = 1)]; simp; omega
        · rw [if_neg hf, if_neg hf]; simp; omega
end Go.Proofs.Ytndfckpcbiecnaa

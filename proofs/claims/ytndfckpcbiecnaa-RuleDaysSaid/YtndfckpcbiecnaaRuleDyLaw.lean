/-
  The months and the days of a rule: the masks, and the document's.
-/
import Derived.Test.YtndfckpcbiecnaaRuleMonths
import Derived.Test.YtndfckpcbiecnaaRuleTmLaw
namespace Go.Proofs.Ytndfckpcbiecnaa
open Go.RowKit
set_option linter.unusedVariables false

def bareB (r : Ru) : Bool := decide (r.l6.length = 0) && decide (r.l7.length = 0)
def monthB (r : Ru) (x : Int) : Bool := (decide (r.l5.length = 0) && (decide (r.fq ≠ 6) || (!bareB r || decide (x = fMo (r.st / 86400))))) || decide (x ∈ r.l5)
theorem full_days : (∀ n : Nat, n < 13 → 1 ≤ n → (fullCl.m 3).testBit n = true) ∧ (∀ n : Nat, n < 32 → 1 ≤ n → (fullCl.m 4).testBit n = true) ∧ (∀ n : Nat, n < 32 → 1 ≤ n → (fullCl.m 5).testBit n = true) := by
  refine ⟨?_, ?_, ?_⟩ <;> decide +kernel
theorem hasB_full1 {m : Nat} {x : Int} {k : Nat} (h : ∀ n : Nat, n < k → 1 ≤ n → m.testBit n = true) (h0 : 1 ≤ x) (h1 : x < k) : hasB m x = true := by
  rw [hasB, decide_eq_true (by omega : 0 ≤ x), Bool.true_and]; exact h _ (by omega) (by omega)
theorem month_law {r : Ru} {x : Int} (hc : checkE r = 0) (h0 : 1 ≤ x) (h1 : x ≤ 12) : hasB (monthsV r) x = monthB r x := by
  rw [monthsV, if_pos hc, monthB]
  by_cases h : 0 < r.l5.length
  · rw [if_pos h, ofM_has (by omega) (by omega), decide_eq_false (by omega : ¬ r.l5.length = 0), Bool.false_and, Bool.false_or]
  · have hl : r.l5 = [] := List.eq_nil_of_length_eq_zero (by omega)
    rw [if_neg h, hl]
    by_cases h2 : r.fq = 6 ∧ r.l6.length = 0 ∧ r.l7.length = 0
    · rw [if_pos h2, ofM_has (by omega) (by omega), bareB, decide_eq_true h2.2.1, decide_eq_true h2.2.2, show decide (r.fq ≠ 6) = false from decide_eq_false (fun c => c h2.1)]
      simp
    · rw [if_neg h2, hasB_full1 full_days.1 h0 (by omega)]
      have e : (decide (r.fq ≠ 6) || (!bareB r || decide (x = fMo (r.st / 86400)))) = true := by
        by_cases a : r.fq = 6
        · have : bareB r = false := by
            rw [bareB]
            by_cases b : r.l6.length = 0
            · rw [decide_eq_false (fun c => h2 ⟨a, b, c⟩), Bool.and_false]
            · rw [decide_eq_false b, Bool.false_and]
          rw [this]; simp
        · rw [decide_eq_true a]; rfl
      rw [e]; simp
/-- the days that are told: those of the month, those from its end -/
def negM (l : List Int) : Nat := l.foldl (fun m n => m ||| ofM [-n]) 0
def domV (r : Ru) : Nat := if checkE r = 0 then (if r.l6.headD 0 < 0 then fullCl.m 4 else if 0 < r.l6.length then ofM r.l6 else if r.l7.length = 0 ∧ (r.fq = 5 ∨ r.fq = 6) then ofM [fD (r.st / 86400)] else fullCl.m 4) else 0
def endV (r : Ru) : Nat := if checkE r = 0 then (if r.l6.headD 0 < 0 then negM r.l6 else fullCl.m 5) else 0
theorem neg_fold (x : Int) (h0 : 0 ≤ x) (h1 : x < 64) : ∀ (l : List Int) (m : Nat), (l.foldl (fun m n => m ||| ofM [-n]) m).testBit x.toNat = (m.testBit x.toNat || decide (-x ∈ l))
  | [], m => by simp
  | n :: l, m => by
    rw [List.foldl_cons, neg_fold x h0 h1 l]
    have e : (ofM [-n]).testBit x.toNat = decide (x = -n) := by
      have := ofM_has (l := [-n]) h0 h1
      rw [hasB, decide_eq_true h0, Bool.true_and] at this
      rw [this]; simp
    rw [Nat.testBit_or, e, Bool.or_assoc]
    congr 1
    rw [Bool.eq_iff_iff]
    simp only [Bool.or_eq_true, decide_eq_true_eq, List.mem_cons]
    constructor
    · rintro (h | h)
      · exact .inl (by omega)
      · exact .inr h
    · rintro (h | h)
      · exact .inl (by omega)
      · exact .inr h
theorem neg_has {l : List Int} {x : Int} (h0 : 0 ≤ x) (h1 : x < 64) : hasB (negM l) x = decide (-x ∈ l) := by
  rw [hasB, decide_eq_true h0, Bool.true_and, negM, neg_fold x h0 h1, Nat.zero_testBit, Bool.false_or]
theorem days_ok {r : Ru} (h : daysE r = 0) : (r.l6.length ≤ 64 ∧ ∀ x ∈ r.l6, (-31 ≤ x ∧ x ≤ 31) ∧ x ≠ 0) ∧ mixB r.l6 = false ∧ (0 < r.l6.length → r.fq ≠ 4) := by
  unfold daysE at h
  split at h
  · rename_i hl
    obtain ⟨n, hx⟩ := list_ok hl
    split at h
    · cases h
    · rename_i hz
      split at h
      · cases h
      · rename_i h4
        split at h
        · cases h
        · rename_i hm
          refine ⟨⟨n, fun x hxm => ⟨hx x hxm, fun e => hz (List.any_eq_true.2 ⟨x, hxm, by simp [e]⟩)⟩⟩, by simpa using hm, fun a b => h4 ⟨a, b⟩⟩
  · rename_i hl
    exact absurd h hl
/-- all below 0, or none -/
theorem one_sign {l : List Int} (hz : ∀ x ∈ l, x ≠ 0) (hm : mixB l = false) : (l.headD 0 < 0 → ∀ x ∈ l, x < 0) ∧ (¬ l.headD 0 < 0 → ∀ x ∈ l, 0 < x) := by
  rw [← sg_head] at hm
  have key : ∀ x ∈ l, sgP (l.headD 0) x = false := fun x hx => by
    rw [← Bool.not_eq_true]; intro e
    have : l.any (sgP (l.headD 0)) = true := List.any_eq_true.2 ⟨x, hx, e⟩
    rw [hm] at this; cases this
  have two : ∀ x ∈ l, (x < 0 ↔ l.headD 0 < 0) := fun x hx => by
    have := key x hx
    rw [sgP, Bool.or_eq_false_iff, bne_eq_false_iff_eq] at this
    exact decide_eq_decide.1 this.1
  exact ⟨fun h x hx => (two x hx).2 h, fun h x hx => by
    have h1 := hz x hx
    have h2 : ¬ x < 0 := fun e => h ((two x hx).1 e)
    omega⟩
def dayVB (r : Ru) (x b : Int) : Bool := (decide (r.l6.length = 0) && (decide (r.fq < 5) || (!bareB r || decide (x = fD (r.st / 86400))))) || (decide (x ∈ r.l6) || decide (-b ∈ r.l6))
theorem day_law {r : Ru} {x b : Int} (hc : checkE r = 0) (h0 : 1 ≤ x) (h1 : x ≤ 31) (h2 : 1 ≤ b) (h3 : b ≤ 31) : (hasB (domV r) x && hasB (endV r) b) = dayVB r x b := by
  obtain ⟨⟨-, hx⟩, hm, -⟩ := days_ok (check_ok hc).e6
  obtain ⟨sn, sp⟩ := one_sign (fun y hy => (hx y hy).2) hm
  have hu : 0 ≤ r.fq ∧ r.fq ≤ 6 := by simpa only [unB, decide_eq_true_eq] using (head_ok (check_ok hc).h).2
  rw [domV, endV, if_pos hc, if_pos hc, dayVB]
  by_cases hn : r.l6.headD 0 < 0
  · have hne : r.l6.length ≠ 0 := fun e => by rw [List.eq_nil_of_length_eq_zero e] at hn; exact absurd hn (by simp)
    rw [if_pos hn, if_pos hn, hasB_full1 full_days.2.1 h0 (by omega), Bool.true_and, neg_has (by omega) (by omega), decide_eq_false hne, Bool.false_and, Bool.false_or,
      decide_eq_false (fun e => by have := sn hn x e; omega : ¬ x ∈ r.l6), Bool.false_or]
  · rw [if_neg hn, if_neg hn, hasB_full1 full_days.2.2 h2 (by omega), Bool.and_true]
    have hb : decide (-b ∈ r.l6) = false := decide_eq_false (fun e => by have := sp hn (-b) e; omega)
    rw [hb, Bool.or_false]
    by_cases h : 0 < r.l6.length
    · rw [if_pos h, ofM_has (by omega) (by omega), decide_eq_false (by omega : ¬ r.l6.length = 0), Bool.false_and, Bool.false_or]
    · have hl : r.l6 = [] := List.eq_nil_of_length_eq_zero (by omega)
      have hl0 : r.l6.length = 0 := by omega
      rw [if_neg h, decide_eq_true hl0, Bool.true_and, decide_eq_false (by rw [hl]; simp : ¬ x ∈ r.l6), Bool.or_false, bareB, decide_eq_true hl0, Bool.true_and]
      by_cases h7 : r.l7.length = 0 ∧ (r.fq = 5 ∨ r.fq = 6)
      · rw [if_pos h7, ofM_has (by omega) (by omega), decide_eq_true h7.1, decide_eq_false (by omega : ¬ r.fq < 5)]
        simp
      · rw [if_neg h7, hasB_full1 full_days.2.1 h0 (by omega)]
        by_cases a : r.l7.length = 0
        · rw [decide_eq_true (by omega : r.fq < 5)]; rfl
        · rw [decide_eq_false a]; simp
end Go.Proofs.Ytndfckpcbiecnaa

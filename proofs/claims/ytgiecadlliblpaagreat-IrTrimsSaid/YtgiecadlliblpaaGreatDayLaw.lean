/-
  The days of clauses: which of them are active on a day, the list of days, the first and the last one.
  The chapter's example has 97 days.
-/
import Derived.Test.YtgiecadlliblpaaGreatClFullLaw
import Derived.Test.YtgiecadlliblpaaGreatOpenCls
import Derived.Test.YtgiecadlliblpaaGreatWeekLaw
namespace Go.Proofs.YtgiecadlliblpaaGreat
open Go.RowKit
set_option linter.unusedVariables false

def okD (c : Cl) : Bool := heldB c.fr c.un && mayC c
def frD (c : Cl) : Int := heldF c.fr c.un / 86400
def unD (c : Cl) : Int := heldU c.fr c.un / 86400
/-- is a clause, of those that have days, active on a day? -/
def onD (c : Cl) (n : Int) : Bool := decide (frD c ≤ n) && (decide (n ≤ unD c) && dayC c n)
def liveD (c : Cl) (n : Int) : Bool := okD c && onD c n
def atC (cs : List Cl) (i : Nat) : Cl := cs.getD i fullCl
theorem atC_get {cs : List Cl} {i : Nat} (h : i < cs.length) : atC cs i = cs[i] := by simp [atC, h]
/-- the places of the clauses that have days -/
def liveI (cs : List Cl) : Nat → List Nat
  | 0 => []
  | k + 1 => liveI cs k ++ (if okD (atC cs k) then [k] else [])
theorem liveI_mem {cs : List Cl} {i : Nat} : ∀ {k : Nat}, i ∈ liveI cs k ↔ i < k ∧ okD (atC cs i) = true
  | 0 => by simp [liveI]
  | k + 1 => by
    rw [liveI, List.mem_append, liveI_mem]
    by_cases h : okD (atC cs k) = true
    · rw [if_pos h, List.mem_singleton]
      constructor
      · rintro (⟨h1, h2⟩ | rfl)
        · exact ⟨by omega, h2⟩
        · exact ⟨by omega, h⟩
      · rintro ⟨h1, h2⟩
        by_cases e : i = k
        · exact .inr e
        · exact .inl ⟨by omega, h2⟩
    · rw [if_neg h]
      constructor
      · rintro (⟨h1, h2⟩ | h1)
        · exact ⟨by omega, h2⟩
        · cases h1
      · rintro ⟨h1, h2⟩
        by_cases e : i = k
        · subst e; exact absurd h2 h
        · exact .inl ⟨by omega, h2⟩
theorem liveI_len (cs : List Cl) : ∀ k, (liveI cs k).length ≤ k
  | 0 => by simp [liveI]
  | k + 1 => by have := liveI_len cs k; rw [liveI, List.length_append]; split <;> simp <;> omega
/-- the mask of the clauses that are active on a day -/
def actM (cs : List Cl) (n : Int) : Nat := mk fun i => decide (i < cs.length) && liveD (atC cs i) n
theorem mk_or {p : Nat → Bool} {k : Nat} (h : k < 64) : mk p ||| 2 ^ k = mk fun i => p i || decide (i = k) := by
  refine eq_mk (or_lt (mk_lt _) (pow_lt h)) (fun i hi => ?_)
  rw [Nat.testBit_or, mk_test, Nat.testBit_two_pow]
  have : decide (k = i) = decide (i = k) := decide_eq_decide.2 ⟨Eq.symm, Eq.symm⟩
  simp [hi, this]
theorem actM_lt (cs : List Cl) (n : Int) : actM cs n < 18446744073709551616 := mk_lt _
theorem actM_I (cs : List Cl) (n : Int) : mk (fun i => decide (i ∈ liveI cs (min cs.length 64)) && onD (atC cs i) n) = actM cs n := by
  refine mk_congr fun i hi => ?_
  rw [liveD, ← Bool.and_assoc]
  congr 1
  rw [Bool.eq_iff_iff]
  simp only [Bool.and_eq_true, decide_eq_true_eq, liveI_mem]
  constructor
  · rintro ⟨h1, h2⟩; exact ⟨by omega, h2⟩
  · rintro ⟨h1, h2⟩; exact ⟨by omega, h2⟩
theorem actM_zero {cs : List Cl} {n : Int} : actM cs n = 0 ↔ ∀ i, i < cs.length → i < 64 → liveD (atC cs i) n = false := by
  constructor
  · intro h i h1 h2
    have := mk_test (fun i => decide (i < cs.length) && liveD (atC cs i) n) i
    rw [← actM, h, Nat.zero_testBit, decide_eq_true h2, decide_eq_true h1, Bool.true_and, Bool.true_and] at this
    exact this.symm
  · intro h
    rw [actM, ← mk_false]
    refine mk_congr fun i hi => ?_
    by_cases h1 : i < cs.length
    · rw [h i h1 hi, Bool.and_false]
    · rw [decide_eq_false h1, Bool.false_and]
theorem held_days (c : Cl) : 0 ≤ frD c ∧ frD c ≤ 146096 ∧ -1 ≤ unD c ∧ unD c ≤ 146096 := by
  unfold frD unD
  rcases held_cases c.fr c.un with ⟨e1, e2, h⟩ | ⟨e1, e2, h⟩ <;> rw [e1, e2] <;> omega
/-- the first and the last day of some -/
def loB (cs : List Cl) (I : List Nat) : Int := I.foldl (fun a i => min a (frD (atC cs i))) 146097
def hiB (cs : List Cl) (I : List Nat) : Int := I.foldl (fun a i => max a (unD (atC cs i))) (-1)
theorem loB_snoc (cs : List Cl) (I : List Nat) (i : Nat) : loB cs (I ++ [i]) = min (loB cs I) (frD (atC cs i)) := by rw [loB, List.foldl_append]; rfl
theorem hiB_snoc (cs : List Cl) (I : List Nat) (i : Nat) : hiB cs (I ++ [i]) = max (hiB cs I) (unD (atC cs i)) := by rw [hiB, List.foldl_append]; rfl
theorem loB_fold (cs : List Cl) : ∀ (I : List Nat) (a : Int), 0 ≤ a → a ≤ 146097 → 0 ≤ I.foldl (fun a i => min a (frD (atC cs i))) a ∧ I.foldl (fun a i => min a (frD (atC cs i))) a ≤ a ∧ ∀ i ∈ I, I.foldl (fun a i => min a (frD (atC cs i))) a ≤ frD (atC cs i)
  | [], a, h0, h1 => ⟨h0, Int.le_refl _, by simp⟩
  | i :: I, a, h0, h1 => by
    have hd := held_days (atC cs i)
    obtain ⟨g0, g1, g2⟩ := loB_fold cs I (min a (frD (atC cs i))) (by omega) (by omega)
    rw [List.foldl_cons]
    refine ⟨g0, by omega, fun j hj => ?_⟩
    rcases List.mem_cons.1 hj with rfl | hj
    · omega
    · exact g2 j hj
theorem hiB_fold (cs : List Cl) : ∀ (I : List Nat) (a : Int), -1 ≤ a → a ≤ 146096 → I.foldl (fun a i => max a (unD (atC cs i))) a ≤ 146096 ∧ a ≤ I.foldl (fun a i => max a (unD (atC cs i))) a ∧ ∀ i ∈ I, unD (atC cs i) ≤ I.foldl (fun a i => max a (unD (atC cs i))) a
  | [], a, h0, h1 => ⟨h1, Int.le_refl _, by simp⟩
  | i :: I, a, h0, h1 => by
    have hd := held_days (atC cs i)
    obtain ⟨g0, g1, g2⟩ := hiB_fold cs I (max a (unD (atC cs i))) (by omega) (by omega)
    rw [List.foldl_cons]
    refine ⟨g0, by omega, fun j hj => ?_⟩
    rcases List.mem_cons.1 hj with rfl | hj
    · omega
    · exact g2 j hj
abbrev loC (cs : List Cl) : Int := loB cs (liveI cs (min cs.length 64))
abbrev hiC (cs : List Cl) : Int := hiB cs (liveI cs (min cs.length 64))
theorem loB_bd (cs : List Cl) (I : List Nat) : 0 ≤ loB cs I ∧ loB cs I ≤ 146097 := by
  obtain ⟨g0, g1, g2⟩ := loB_fold cs I 146097 (by omega) (by omega)
  exact ⟨g0, g1⟩
theorem hiB_bd (cs : List Cl) (I : List Nat) : -1 ≤ hiB cs I ∧ hiB cs I ≤ 146096 := by
  obtain ⟨g0, g1, g2⟩ := hiB_fold cs I (-1) (by omega) (by omega)
  exact ⟨g1, g0⟩
theorem act_in {cs : List Cl} {n : Int} (h : actM cs n ≠ 0) : loC cs ≤ n ∧ n ≤ hiC cs := by
  have h1 : ¬ ∀ i, i < cs.length → i < 64 → liveD (atC cs i) n = false := fun e => h (actM_zero.2 e)
  have h2 : ∃ i, i < cs.length ∧ i < 64 ∧ liveD (atC cs i) n = true := by
    apply Classical.byContradiction
    intro e
    apply h1
    intro i a b
    cases hb : liveD (atC cs i) n
    · rfl
    · exact absurd ⟨i, a, b, hb⟩ e
  obtain ⟨i, a, b, hl⟩ := h2
  simp only [liveD, onD, Bool.and_eq_true, decide_eq_true_eq] at hl
  have hm : i ∈ liveI cs (min cs.length 64) := liveI_mem.2 ⟨by omega, hl.1⟩
  have l := (loB_fold cs (liveI cs (min cs.length 64)) 146097 (by omega) (by omega)).2.2 i hm
  have u := (hiB_fold cs (liveI cs (min cs.length 64)) (-1) (by omega) (by omega)).2.2 i hm
  have u' : unD (atC cs i) ≤ hiC cs := u
  have l' : loC cs ≤ frD (atC cs i) := l
  omega
def actB (cs : List Cl) (n : Int) : Bool := decide (actM cs n ≠ 0)
/-- the days of a set -/
def daysT (cs : List Cl) (a b : Int) : List Int := (daysL a b).filter (actB cs)
theorem daysT_clip (cs : List Cl) (a b : Int) : (daysL (max a (loC cs)) (min b (hiC cs))).filter (actB cs) = daysT cs a b :=
  daysL_clip fun n h => act_in (by simpa only [actB, decide_eq_true_eq] using h)
end Go.Proofs.YtgiecadlliblpaaGreat

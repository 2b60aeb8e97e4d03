/-
  The least number of a mask above another one is the first such one of its list.
-/
import Derived.Test.YtchceegpbfecaaaDoorMaskList
namespace Go.Proofs.YtchceegpbfecaaaDoor
open Go.RowKit
set_option linter.unusedVariables false

theorem sel_split (p : Nat → Bool) (k : Nat) (hk : p k = true) : ∀ N, k < N → ∃ bs, sel p N = sel p k ++ (k : Int) :: bs
  | 0, h => by omega
  | N + 1, h => by
    by_cases e : k = N
    · subst e; exact ⟨[], sel_yes hk⟩
    · obtain ⟨bs, hb⟩ := sel_split p k hk N (by omega)
      by_cases hp : p N = true
      · exact ⟨bs ++ [(N : Int)], by rw [sel_yes hp, hb]; simp⟩
      · exact ⟨bs, by rw [sel_no (by simpa using hp), hb]⟩
theorem sel_none {p : Nat → Bool} {n : Nat} (h : ∀ i, i < n → p i = false) : sel p n = [] := by
  cases e : sel p n with
  | nil => rfl
  | cons x xs =>
    have hx : x ∈ sel p n := by rw [e]; simp
    obtain ⟨k, hk, hp, _⟩ := sel_mem.mp hx
    rw [h k hk] at hp; cases hp

/-- the first of a list above n, or -1 -/
def wantF (n : Int) : List Int → Int
  | [] => -1
  | x :: xs => if n < x then x else wantF n xs
theorem wantF_none (n : Int) : ∀ l : List Int, (∀ x ∈ l, ¬ n < x) → wantF n l = -1
  | [], _ => rfl
  | x :: xs, h => by rw [wantF, if_neg (h x (by simp)), wantF_none n xs (fun y hy => h y (by simp [hy]))]
theorem wantF_at (n y : Int) (bs : List Int) (hy : n < y) : ∀ l : List Int, (∀ x ∈ l, ¬ n < x) → wantF n (l ++ y :: bs) = y
  | [], _ => by simp [wantF, hy]
  | x :: xs, h => by
    rw [List.cons_append, wantF, if_neg (h x (by simp)), wantF_at n y bs hy xs (fun z hz => h z (by simp [hz]))]

theorem want_no {m : Nat} (n : Int) (hm : m < 18446744073709551616) (h : aboveM m n = 0) : wantF n (sel m.testBit 64) = -1 := by
  refine wantF_none n _ (fun x hx hlt => ?_)
  obtain ⟨k, hk, hp, rfl⟩ := sel_mem.mp hx
  have := aboveM_test n k hm
  rw [h, hp] at this
  simp at this; omega
theorem want_yes {m : Nat} (n : Int) (hm : m < 18446744073709551616) (h : aboveM m n ≠ 0) : wantF n (sel m.testBit 64) = (lsb (aboveM m n) : Int) := by
  obtain ⟨h1, h2, h3⟩ := lsb_spec h (aboveM_lt hm)
  obtain ⟨k, hk⟩ : ∃ k, lsb (aboveM m n) = k := ⟨_, rfl⟩
  rw [hk] at h1 h2 h3 ⊢
  rw [aboveM_test n k hm] at h2
  simp only [Bool.and_eq_true, decide_eq_true_eq] at h2
  obtain ⟨bs, hb⟩ := sel_split m.testBit k h2.2 64 h1
  rw [hb]
  refine wantF_at n k bs h2.1 _ (fun x hx hlt => ?_)
  obtain ⟨j, hj, hp, rfl⟩ := sel_mem.mp hx
  have := h3 j hj
  rw [aboveM_test n j hm, hp] at this
  simp at this; omega
theorem first_no {m : Nat} (h : m = 0) : sel m.testBit 64 = [] := sel_none (fun i _ => by subst h; simp)
theorem first_yes {m : Nat} (hm : m < 18446744073709551616) (h : m ≠ 0) : ∃ bs, sel m.testBit 64 = (lsb m : Int) :: bs := by
  obtain ⟨h1, h2, h3⟩ := lsb_spec h hm
  obtain ⟨bs, hb⟩ := sel_split m.testBit (lsb m) h2 64 h1
  rw [sel_none h3] at hb
  exact ⟨bs, hb⟩
theorem span_one (n t : Int) (k : Nat) : spanB n t 1 k = (decide (n ≤ (k : Int)) && decide ((k : Int) ≤ t)) := by
  rw [spanB, Bool.eq_iff_iff]
  simp only [decide_eq_true_eq, Bool.and_eq_true]
  omega
theorem wantF_step (n : Int) (l : List Int) (k : Nat) (hk : k < l.length) : wantF n (l.drop k) = if n < l[k] then l[k] else wantF n (l.drop (k + 1)) := by
  rw [List.drop_eq_getElem_cons hk, wantF]
end Go.Proofs.YtchceegpbfecaaaDoor

/-
  The days from one to another one; the day after a day.
-/
import Derived.Test.YtgiecadlliblpaaGreatCivDate
namespace Go.Proofs.YtgiecadlliblpaaGreat
open Go.RowKit
set_option linter.unusedVariables false

/-- the days from one to another one -/
def daysL (a b : Int) : List Int := (List.range (b - a + 1).toNat).map fun (i : Nat) => a + (i : Int)
theorem daysL_len (a b : Int) : (daysL a b).length = (b - a + 1).toNat := by simp [daysL]
theorem daysL_get {a b : Int} {k : Nat} (h : k < (daysL a b).length) : (daysL a b)[k] = a + k := by simp [daysL]
theorem daysL_mem {a b n : Int} : n ∈ daysL a b ↔ a ≤ n ∧ n ≤ b := by
  simp only [daysL, List.mem_map, List.mem_range]
  constructor
  · rintro ⟨i, h, rfl⟩; omega
  · rintro ⟨h1, h2⟩; exact ⟨(n - a).toNat, by omega, by omega⟩
theorem daysL_nil {a b : Int} (h : b < a) : daysL a b = [] := by
  rw [daysL, show (b - a + 1).toNat = 0 by omega]; rfl
theorem daysL_split {a b c : Int} (h1 : a ≤ c) (h2 : c ≤ b + 1) : daysL a b = daysL a (c - 1) ++ daysL c b := by
  apply List.ext_getElem
  · rw [List.length_append, daysL_len, daysL_len, daysL_len]; omega
  · intro i h3 h4
    rw [daysL_get h3, List.getElem_append]
    split
    · rename_i h5; rw [daysL_get h5]
    · rename_i h5
      rw [daysL_get, daysL_len] at *
      omega
theorem daysL_out {p : Int → Bool} {a b : Int} (h : ∀ n, a ≤ n → n ≤ b → p n = false) : (daysL a b).filter p = [] := by
  rw [List.filter_eq_nil_iff]
  intro n hn
  obtain ⟨h1, h2⟩ := daysL_mem.1 hn
  rw [h n h1 h2]; simp
theorem daysL_clip {p : Int → Bool} {a b lo hi : Int} (h : ∀ n, p n = true → lo ≤ n ∧ n ≤ hi) : (daysL (max a lo) (min b hi)).filter p = (daysL a b).filter p := by
  have hno : ∀ n, ¬ (lo ≤ n ∧ n ≤ hi) → p n = false := fun n hn => by
    rw [← Bool.not_eq_true]; intro e; exact hn (h n e)
  by_cases hab : max a lo ≤ min b hi
  · rw [daysL_split (a := a) (b := b) (c := max a lo) (by omega) (by omega), daysL_split (a := max a lo) (b := b) (c := min b hi + 1) (by omega) (by omega), List.filter_append, List.filter_append,
      daysL_out (a := a) (fun n h1 h2 => hno n (by omega)), daysL_out (b := b) (fun n h1 h2 => hno n (by omega)), List.nil_append, List.append_nil, show min b hi + 1 - 1 = min b hi by omega]
  · rw [daysL_nil (by omega), daysL_out (fun n h1 h2 => hno n (by omega))]; rfl
theorem filter_idx {α : Type} (p : α → Bool) : ∀ (l : List α) (k : Nat) (hk : k < l.length), p l[k] = true → (l.filter p)[(l.take k).countP p]? = some l[k]
  | [], k, hk, _ => by simp at hk
  | a :: l, 0, hk, h => by
    have h' : p a = true := h
    simp [h']
  | a :: l, k + 1, hk, h => by
    have ih := filter_idx p l k (by simpa using hk) (by simpa using h)
    rw [List.take_succ_cons, List.countP_cons, List.filter_cons]
    by_cases ha : p a = true
    · rw [if_pos ha, if_pos ha, List.getElem?_cons_succ]; simpa using ih
    · rw [if_neg ha, if_neg ha, Nat.add_zero]; simpa using ih
theorem count_snoc {α : Type} (p : α → Bool) (l : List α) (k : Nat) (hk : k < l.length) : (l.take (k + 1)).countP p = (l.take k).countP p + if p l[k] then 1 else 0 := by
  rw [take_snoc l k hk, List.countP_append, List.countP_singleton]
theorem filter_len {α : Type} (p : α → Bool) (l : List α) : (l.filter p).length = l.countP p := by rw [List.countP_eq_length_filter]
theorem count_lt {α : Type} (p : α → Bool) (l : List α) (k : Nat) (hk : k < l.length) (h : p l[k] = true) : (l.take k).countP p < (l.filter p).length := by
  have := filter_idx p l k hk h
  exact (List.getElem?_eq_some_iff.1 this).1

/-! ### the day after a day -/
theorem next_is {n y z : Int} {m k : Nat} {d e : Int} (hd : IsDate n y m d) (gd : IsDate (n + 1) z k e) (h1 : n + 1 < 146097) :
    (d + 1 ≤ lenI y m → z = y ∧ k = m ∧ e = d + 1) ∧
    (¬ d + 1 ≤ lenI y m → m + 1 ≤ 12 → z = y ∧ k = m + 1 ∧ e = 1) ∧
    (¬ d + 1 ≤ lenI y m → ¬ m + 1 ≤ 12 → z = y + 1 ∧ k = 1 ∧ e = 1) := by
  have hd0 := hd.d0
  have hd1 := hd.d1
  have hsum := hd.sum
  have hm0 := hd.m0
  have hm1 := hd.m1
  refine ⟨fun h => ?_, fun h h2 => ?_, fun h h2 => ?_⟩
  · exact gd.unique ⟨hd.y0, hd.y1, hd.m0, hd.m1, by omega, h, by omega⟩
  · have hm := msI_next y m hm0 (by omega)
    have hl := lenI_bd y ((m + 1 : Nat) : Int)
    exact gd.unique (z := y) (k := m + 1) (e := 1) ⟨hd.y0, hd.y1, by omega, by omega, by omega, by omega, by omega⟩
  · obtain rfl : m = 12 := by omega
    have hl := msI_last y
    have hs := ysI_next y
    have hle : lenI y ((12 : Nat) : Int) = lenI y 12 := rfl
    have hy1 : y + 1 ≤ 2369 := by
      have e1 : y ≤ 2369 := hd.y1
      by_cases e2 : y = 2369
      · subst e2
        rw [show ysI 2369 = 145732 by decide, show msI 2369 12 = 334 by decide] at hsum
        rw [hle, show lenI 2369 12 = 31 by decide] at hd1 h
        omega
      · omega
    have hlen := lenI_bd (y + 1) 1
    have hone : msI (y + 1) 1 = 0 := rfl
    exact gd.unique (z := y + 1) (k := 1) (e := 1) ⟨by have := hd.y0; omega, hy1, by omega, by omega, by omega, by show (1 : Int) ≤ lenI (y + 1) 1; omega, by rw [hone]; omega⟩
theorem next_date {n : Int} (h0 : 0 ≤ n) (h1 : n + 1 < 146097) :
    (fD n + 1 ≤ lenI (fY n) (fMo n) → fY (n + 1) = fY n ∧ fMo (n + 1) = fMo n ∧ fD (n + 1) = fD n + 1 ∧ fOr (n + 1) = fOr n + 1) ∧
    (¬ fD n + 1 ≤ lenI (fY n) (fMo n) → fMo n + 1 ≤ 12 → fY (n + 1) = fY n ∧ fMo (n + 1) = fMo n + 1 ∧ fD (n + 1) = 1 ∧ fOr (n + 1) = fOr n + 1) ∧
    (¬ fD n + 1 ≤ lenI (fY n) (fMo n) → ¬ fMo n + 1 ≤ 12 → fY (n + 1) = fY n + 1 ∧ fMo (n + 1) = 1 ∧ fD (n + 1) = 1 ∧ fOr (n + 1) = 1) := by
  obtain ⟨m, e, hd, _⟩ := fDate n h0 (by omega)
  obtain ⟨k, f, gd, _⟩ := fDate (n + 1) (by omega) h1
  obtain ⟨a1, a2, a3⟩ := next_is hd gd h1
  have gor := ord_eq gd
  have o1 : fOr n = n - ysI (fY n) + 1 := rfl
  have o2 : fOr (n + 1) = n + 1 - ysI (fY (n + 1)) + 1 := rfl
  rw [o1, o2, f, e]
  refine ⟨fun h => ?_, fun h h2 => ?_, fun h h2 => ?_⟩
  · obtain ⟨b1, b2, b3⟩ := a1 h
    refine ⟨b1, by rw [b2], b3, ?_⟩
    rw [b1]; omega
  · obtain ⟨b1, b2, b3⟩ := a2 h (by omega)
    refine ⟨b1, by rw [b2]; omega, b3, ?_⟩
    rw [b1]; omega
  · obtain ⟨b1, b2, b3⟩ := a3 h (by omega)
    refine ⟨b1, by rw [b2]; rfl, b3, ?_⟩
    rw [b2, b3, show msI (fY (n + 1)) 1 = 0 from rfl] at gor
    omega
end Go.Proofs.YtgiecadlliblpaaGreat

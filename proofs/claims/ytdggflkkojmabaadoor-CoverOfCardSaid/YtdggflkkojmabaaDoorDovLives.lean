/-
  The pieces of a list are unique; ferialaw03.lives answers true.
-/
import Derived.Test.YtdggflkkojmabaaDoorDovOf
namespace Go.Proofs.YtdggflkkojmabaaDoor.Cov
open Go.RowKit
set_option linter.unusedVariables false

theorem FirstIs.unique {l : List Int} {p p' : Int × Int × Int} {n n' : Nat} (h : FirstIs l p n) (h' : FirstIs l p' n') : p = p' ∧ n = n' := by
  obtain ⟨m, hm, hl, hr, he, hc⟩ := h
  obtain ⟨m', hm', hl', hr', he', hc'⟩ := h'
  have key : ∀ (m m' : Nat) (hm : 1 ≤ m) (hl : m ≤ l.length) (hl' : m' ≤ l.length), (∀ (h : m < l.length), l[m] - l[m - 1]'(by omega) ≠ stepOf l) → (∀ j, (hj : j + 1 < m') → l[j + 1]'(by omega) - l[j]'(by omega) = stepOf l) → m' ≤ m := by
    intro m m' hm hl hl' he hr
    rcases Nat.lt_or_ge m m' with h | h
    · refine absurd ?_ (he (by omega))
      have := hr (m - 1) (by omega)
      simp only [show m - 1 + 1 = m by omega] at this
      exact this
    · exact h
  have e : m = m' := Nat.le_antisymm (key m' m hm' hl' hl he' hr) (key m m' hm hl hl' he hr')
  subst e
  rcases hc with ⟨h1, h2, h3⟩ | ⟨h1, h2, h3⟩ <;> rcases hc' with ⟨h1', h2', h3'⟩ | ⟨h1', h2', h3'⟩
  · exact ⟨h2.trans h2'.symm, h3.trans h3'.symm⟩
  · exact absurd h1 h1'
  · exact absurd h1' h1
  · exact ⟨h2.trans h2'.symm, h3.trans h3'.symm⟩

theorem Decomp.unique : ∀ {ps qs : List (Int × Int × Int)} {l : List Int}, Decomp ps l → Decomp qs l → ps = qs
  | [], [], _, _, _ => rfl
  | [], q :: qs, l, h, h' => by have e : l = [] := h; subst e; simp [Decomp] at h'
  | p :: ps, [], l, h, h' => by have e : l = [] := h'; subst e; simp [Decomp] at h
  | p :: ps, q :: qs, l, h, h' => by
    obtain ⟨_, n, h1, h2⟩ := h
    obtain ⟨_, n', h1', h2'⟩ := h'
    obtain ⟨rfl, rfl⟩ := h1.unique h1'
    rw [Decomp.unique h2 h2']

theorem OfIs.unique {l : List Int} {ps qs : List (Int × Int × Int)} (h : OfIs l ps) (h' : OfIs l qs) : ps = qs := by
  rcases h with ⟨h1, h2⟩ | ⟨h1, h2⟩ <;> rcases h' with ⟨h1', h2'⟩ | ⟨h1', h2'⟩
  · exact h2.unique h2'
  · exact absurd h1 h1'
  · exact absurd h1' h1
  · rw [h2, h2']

theorem of_lives : OfIs [1, 2, 3, 7, 9, 20] [(1, 3, 1), (7, 7, 1), (9, 9, 1), (20, 20, 1)] := by
  refine .inl ⟨⟨by decide, by decide⟩, by decide, 3, ⟨3, by decide, by decide, ?_, ?_, .inr ⟨by decide, rfl, rfl⟩⟩, by decide, 1, ⟨2, by decide, by decide, ?_, ?_, .inl ⟨by decide, rfl, rfl⟩⟩, by decide, 1, ⟨2, by decide, by decide, ?_, ?_, .inl ⟨by decide, rfl, rfl⟩⟩, by decide, 1, ⟨1, by decide, by decide, ?_, ?_, .inl ⟨by decide, rfl, rfl⟩⟩, rfl⟩
  · intro j hj
    match j, hj with
    | 0, _ => rfl
    | 1, _ => rfl
  · decide
  · intro j hj
    match j, hj with
    | 0, _ => rfl
  · decide
  · intro j hj
    match j, hj with
    | 0, _ => rfl
  · intro h; simp at h
  · intro j hj; omega
  · intro h; simp at h

set_option maxHeartbeats 800000 in
theorem lives03_any (w : World) : Calls Tryd.prog 45 #[] w fun e w' => e = .returned (.bool true) ∧ Below w.heap.size w w' := by
  go_enter Tryd.func45, Tryd.ntmps45
  go_wp2_with fail
  have hs : Sl (w.alloc (.cells #[.int .i64 1, .int .i64 2, .int .i64 3, .int .i64 7, .int .i64 9, .int .i64 20] 3)) (some ⟨w.heap.size, 0, none⟩) (ints [1, 2, 3, 7, 9, 20]) := by
    refine .inr ⟨w.heap.size, 0, rfl, by simp, fun j hj => ?_⟩
    simp [ints] at hj ⊢
  refine (Of_any _ 6 [1, 2, 3, 7, 9, 20] _ (by decide) (by decide) hs).mono ?_
  rintro e w1 ⟨v, ps, rfl, hp, hown, hb⟩
  obtain rfl := hp.unique of_lives
  obtain ⟨a, cap, rfl, hs1, _⟩ := owns_form hown
  obtain ⟨b, off, rfl, hb1, hc⟩ := hs1.atTrip (l := [(1, 3, 1), (7, 7, 1), (9, 9, 1), (20, 20, 1)]) (k := 0) (by decide)
  have c0 := hc 0 (by decide)
  have c3 := hc 3 (by decide)
  simp at c0 c3
  obtain ⟨x1, x2, x3⟩ := c0
  obtain ⟨y1, y2, y3⟩ := c3
  have hB : Below w.heap.size w w1 := (below_new (Below.refl _ _) (Nat.le_refl _)).trans (hb.mono (by simp))
  clear hc hs hp hown hb hs1
  go_wp2
  go_ret
  exact ⟨rfl, hB⟩
end Go.Proofs.YtdggflkkojmabaaDoor.Cov

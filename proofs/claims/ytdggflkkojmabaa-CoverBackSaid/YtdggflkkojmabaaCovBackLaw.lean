/-
  The plain law of pieces: the pieces of rising numbers have just these numbers, in order; there are no more pieces than numbers; and behind a piece's end the next one never follows by its step.
-/
import Derived.Test.YtdggflkkojmabaaCovLives
namespace Go.Proofs.Ytdggflkkojmabaa
open Go.RowKit
set_option linter.unusedVariables false

theorem may_lt {l : List Int} (h : May l) {i j : Nat} (hij : i < j) (hj : j < l.length) : l[i]'(by omega) < l[j] := (List.pairwise_iff_getElem.1 h.2) i j (by omega) hj hij

/-- what the first piece of rising numbers is -/
theorem first_law {l : List Int} {p : Int × Int × Int} {n : Nat} (hm : May l) (h : FirstIs l p n) :
    1 ≤ n ∧ n ≤ l.length ∧ pcells p = l.take n ∧ clen p.1 p.2.1 p.2.2 = n ∧ (∀ (hn : n < l.length), l[n] - p.2.1 ≠ p.2.2) ∧ (0 ≤ p.1 ∧ p.1 ≤ 9999) ∧ (0 ≤ p.2.1 ∧ p.2.1 ≤ 9999) ∧ (1 ≤ p.2.2 ∧ p.2.2 ≤ 9999) := by
  obtain ⟨m, hm1, hml, hrun, hend, hc⟩ := h
  have hb : ∀ (i : Nat) (hi : i < l.length), 0 ≤ l[i] ∧ l[i] ≤ 9999 := fun i hi => hm.1 _ (List.getElem_mem hi)
  rcases hc with ⟨h1, rfl, rfl⟩ | ⟨h1, rfl, hnm⟩
  · have hl0 := hb 0 (by omega)
    have hcl : clen (l[0]'(by omega)) (l[0]'(by omega)) 1 = 1 := by
      unfold clen
      rw [if_neg (by omega)]
      simp
    refine ⟨Nat.le_refl _, by omega, ?_, hcl, ?_, hl0, hl0, by show (1 : Int) ≤ 1 ∧ (1 : Int) ≤ 9999; omega⟩
    · simp only [pcells, cells, hcl]
      rw [take_snoc l 0 (by omega)]
      simp [run]
    · intro hn
      have hst := stepOf_eq l hn
      rcases h1 with rfl | ⟨rfl, h2⟩
      · exact absurd hst.symm (by simpa using hend hn)
      · show l[1] - l[0] ≠ 1
        omega
  · obtain rfl : m = n := hnm.symm
    have hm2 : 2 ≤ m := by
      rcases Nat.lt_or_ge m 2 with h | h
      · exact absurd (.inl (by omega)) h1
      · exact h
    have hst := stepOf_eq l (by omega)
    have hlt := may_lt hm (i := 0) (j := 1) (by omega) (by omega)
    have hl0 := hb 0 (by omega)
    have hl1 := hb 1 (by omega)
    have hlm := hb (m - 1) (by omega)
    obtain ⟨s, hs⟩ : ∃ s, stepOf l = s := ⟨_, rfl⟩
    rw [hs] at hst hrun ⊢
    rw [hs] at hend
    have hform : ∀ j, (hj : j < m) → l[j]'(by omega) = l[0]'(by omega) + (j : Int) * s := by
      intro j
      induction j with
      | zero => intro _; simp
      | succ j ih =>
        intro hj
        have := ih (by omega)
        have h2 := hrun j hj
        rw [Int.natCast_add, Int.add_mul]
        simp
        omega
    have hlast := hform (m - 1) (by omega)
    rw [show ((m - 1 : Nat) : Int) = (m : Int) - 1 by omega] at hlast
    have hcl := clen_last (l[0]'(by omega)) (l[m - 1]'(by omega)) s m hl0.1 hlm.2 (by omega) (by omega) (by omega) (by
      left
      have : (m : Int) * s = ((m : Int) - 1) * s + s := by rw [Int.sub_mul]; omega
      omega)
    rw [if_pos hlast.symm] at hcl
    refine ⟨hm1, hml, ?_, hcl, ?_, hl0, hlm, by show 1 ≤ s; omega, by show s ≤ 9999; omega⟩
    · simp only [pcells, cells, hcl]
      apply List.ext_getElem?
      intro i
      by_cases hi : i < m
      · rw [List.getElem?_take_of_lt hi, List.getElem?_eq_getElem (show i < l.length by omega), hform i hi]
        simp [run, hi]
      · rw [List.getElem?_eq_none (by rw [run_length]; omega), List.getElem?_eq_none (by rw [List.length_take]; omega)]
    · intro hn
      exact hend hn

/-- behind a piece's end the next one does not follow by its step -/
def Apart (ps : List (Int × Int × Int)) : Prop := ∀ k, (h : k + 1 < ps.length) → ps[k + 1].1 - (ps[k]'(by omega)).2.1 ≠ (ps[k]'(by omega)).2.2

def Bound (ps : List (Int × Int × Int)) : Prop := ∀ p ∈ ps, (0 ≤ p.1 ∧ p.1 ≤ 9999) ∧ (0 ≤ p.2.1 ∧ p.2.1 ≤ 9999) ∧ (1 ≤ p.2.2 ∧ p.2.2 ≤ 9999)

theorem first_head {l : List Int} {p : Int × Int × Int} {n : Nat} (h : FirstIs l p n) : ∃ hl : 0 < l.length, p.1 = l[0] := by
  obtain ⟨m, hm1, hml, _, _, hc⟩ := h
  rcases hc with ⟨_, rfl, _⟩ | ⟨_, rfl, _⟩ <;> exact ⟨by omega, rfl⟩

theorem decomp_law : ∀ {ps : List (Int × Int × Int)} {l : List Int}, May l → Decomp ps l → pall ps = l ∧ ps.length ≤ l.length ∧ Apart ps ∧ Bound ps
  | [], l, _, h => by
    have e : l = [] := h
    subst e
    exact ⟨rfl, Nat.le_refl _, fun k h => by simp at h, fun p hp => by simp at hp⟩
  | p :: ps, l, hm, ⟨_, n, hf, hd⟩ => by
    obtain ⟨h1, h2, h3, h4, h5, h6, h7, h8⟩ := first_law hm hf
    obtain ⟨i1, i2, i3, i4⟩ := decomp_law (may_drop hm n) hd
    refine ⟨?_, ?_, ?_, ?_⟩
    · show pcells p ++ pall ps = l
      rw [h3, i1, List.take_append_drop]
    · simp at i2 ⊢; omega
    · intro k hk
      cases k with
      | succ k => exact i3 k (by simpa using hk)
      | zero =>
        match ps, hd, hk with
        | q :: qs, ⟨_, n', hq, _⟩, _ =>
          obtain ⟨hl, he⟩ := first_head hq
          have hnl : n < l.length := by have := hl; simp at this; omega
          have := h5 hnl
          show q.1 - p.2.1 ≠ p.2.2
          rw [he]
          simpa using this
    · intro q hq
      rcases List.mem_cons.1 hq with rfl | hq
      · exact ⟨h6, h7, h8⟩
      · exact i4 q hq
end Go.Proofs.Ytdggflkkojmabaa

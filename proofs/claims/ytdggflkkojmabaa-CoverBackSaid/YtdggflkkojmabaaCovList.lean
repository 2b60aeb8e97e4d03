/-
  What feriaref03.List and cover.List compute: contracts for every input whose slices read as lists.
-/
import Derived.Test.YtdggflkkojmabaaCovRef
namespace Go.Proofs.Ytdggflkkojmabaa
open Go.RowKit
set_option linter.unusedVariables false

/-- k numbers from f on, a step s apart -/
def run (f s : Int) (k : Nat) : List Int := (List.range k).map fun (i : Nat) => f + (i : Int) * s
theorem run_length (f s : Int) (k : Nat) : (run f s k).length = k := by simp [run]
theorem run_succ (f s : Int) (k : Nat) : run f s (k + 1) = run f s k ++ [f + (k : Int) * s] := by simp [run, List.range_succ]

/-- the numbers of a piece -/
def cells (f t s : Int) : List Int := run f s (clen f t s).toNat

theorem cells_none (f t s : Int) (h : clen f t s = 0) : cells f t s = [] := by simp [cells, h, run]

theorem clen_zero (f t s : Int) (h : f < 0 ∨ t < f ∨ 9999 < t ∨ s < 1) : clen f t s = 0 := by
  rw [clen, if_pos (by omega)]

/-- behind the loop: f + (k-1) s is the last number that is no more than t -/
theorem clen_last (f t s : Int) (k : Nat) (h1 : 0 ≤ f) (h3 : t ≤ 9999) (h4 : 1 ≤ s) (hk : 0 < k) (hle : f + ((k : Int) - 1) * s ≤ t) (hgt : t < f + (k : Int) * s ∨ 9999 < s) :
    clen f t s = if f + ((k : Int) - 1) * s = t then (k : Int) else 0 := by
  have hm : 0 ≤ ((k : Int) - 1) * s := Int.mul_nonneg (by omega) (by omega)
  have e : (k : Int) * s = ((k : Int) - 1) * s + s := by rw [Int.sub_mul]; omega
  have hlt : t < f + ((k : Int) - 1) * s + s := by
    rcases hgt with h | h
    · omega
    · omega
  have hdm := Int.mul_ediv_add_emod (t - f) s
  -- (t - f) / s = k - 1
  have hq : (t - f) / s = (k : Int) - 1 := by
    have : t - f = (t - (f + ((k : Int) - 1) * s)) + ((k : Int) - 1) * s := by omega
    rw [this, Int.add_mul_ediv_right _ _ (by omega), Int.ediv_eq_zero_of_lt (by omega) (by omega)]
    omega
  have hr : (t - f) % s = t - (f + ((k : Int) - 1) * s) := by
    rw [hq, Int.mul_comm] at hdm
    omega
  unfold clen
  split
  · rename_i hc
    split
    · omega
    · rfl
  · rename_i hc
    split
    · omega
    · omega

set_option maxHeartbeats 400000 in
theorem RList_any (f t s : Int) (w : World) (hf : f ≤ 9223372036854775807) :
    Calls Try.prog 6 #[.agg #[.int .i64 f, .int .i64 t, .int .i64 s]] w fun e w' =>
      ∃ v, e = .returned v ∧ w'.ownsRow w.heap.size 3 1 v (cells f t s).length (ints (cells f t s)) ∧ Below w.heap.size w w' := by
  by_cases h1 : f < 0
  · have hc := hid (cells_none f t s (clen_zero f t s (by omega)))
    go_enter Try.func6, Try.ntmps6
    go_wp2
    go_ret
    rw [hc.out]
    exact ⟨_, rfl, World.ownsRow_nil _ _ _ _, (Below.refl _ _).alloc (Nat.le_refl _) _⟩
  by_cases h3 : 9999 < t
  · have hc := hid (cells_none f t s (clen_zero f t s (by omega)))
    go_enter Try.func6, Try.ntmps6
    go_wp2
    go_ret
    rw [hc.out]
    exact ⟨_, rfl, World.ownsRow_nil _ _ _ _, (Below.refl _ _).alloc (Nat.le_refl _) _⟩
  by_cases h4 : s < 1
  · have hc := hid (cells_none f t s (clen_zero f t s (by omega)))
    go_enter Try.func6, Try.ntmps6
    go_wp2
    go_ret
    rw [hc.out]
    exact ⟨_, rfl, World.ownsRow_nil _ _ _ _, (Below.refl _ _).alloc (Nat.le_refl _) _⟩
  go_enter Try.func6, Try.ntmps6
  go_wp2
  go_loopw [3, 4] (fun v i wr => ∃ (k : Nat) (a : Option Addr) (cap : Nat), i = .int .i64 (f + k * s) ∧ v = .slice a k cap ∧ (k = 0 ∨ f + ((k : Int) - 1) * s ≤ t ∧ s ≤ 9999) ∧
      wr.ownsRow (w.heap.size + 1) 3 1 (.slice a k cap) k (ints (run f s k)) ∧ Below (w.heap.size + 1) (w.alloc (.cells #[.int .i64 f, .int .i64 t, .int .i64 s] 27)) wr) (fun _ i _ => (t + 1 - intOf i).toNat)
  case atStart => exact ⟨0, none, 0, by simp, rfl, .inl rfl, by simpa [run, ints] using World.ownsRow_nil _ _ _ _, Below.refl _ _⟩
  case round =>
    obtain ⟨k, a, cap, rfl, rfl, hk, hown, hB⟩ := hrel
    obtain ⟨hc, hfz⟩ := bcell hB
    obtain ⟨n, hn⟩ : ∃ n, f + (k : Int) * s = n := ⟨_, rfl⟩
    have hk2 : 0 ≤ (k : Int) * s := Int.mul_nonneg (by omega) (by omega)
    have hkn : k ≤ 10000 := by
      rcases hk with h | ⟨h, _⟩
      · omega
      · rcases Nat.eq_zero_or_pos k with h0 | h0
        · omega
        · have := Int.mul_le_mul_of_nonneg_left (a := 1) (b := s) (c := (k : Int) - 1) (by omega) (by omega)
          omega
    have Hn := hid hn
    rw [hn]
    have hn0 : 0 ≤ n := by omega
    clear hn hk2
    by_cases hlt : n ≤ t
    · have hsz := hB.size
      simp at hsz
      by_cases h5 : 9999 < s
      · obtain ⟨_, rfl⟩ : True ∧ k = 0 := ⟨trivial, by omega⟩
        go_wp2_with (at_builtin; refine app1 eInt (.tmp 24) (.tmp 26) rfl rfl rfl rfl rfl hown rfl (by omega) (by omega) (by omega) ?_)
        intro a' cap' w' hown' hg hb' hfr'
        have hB' := hB.trans hb'
        obtain ⟨hc', hfz'⟩ := bcell hB'
        clear hc hfz
        obtain ⟨g, o, rfl, hg1, hg2⟩ := (owns_sl hown').at (k := 0) (by simp)
        have hg3 := hg2 0 (by simp)
        simp [ints, run] at hg3
        have hn2 : f = n := by have := Hn.out; simpa using this
        have hcl := clen_last f t s 1 h1 h3 h4 (by omega) (by simp; omega) (.inr h5)
        have hbw : Below w.heap.size w w' := ((Below.refl _ w).alloc (Nat.le_refl _) _).trans (hB'.mono (by omega))
        by_cases hft : n = t
        · have hb0 : (n != t) = false := by simp [hft]
          have hcs : cells f t s = run f s 1 := by rw [cells, hcl, if_pos (by simp; omega)]; rfl
          have hres := hid hcs
          clear hft hn2 hg2 hb' hcl hcs
          go_wp2
          go_quiet (fail)
          go_wp2
          go_ret
          rw [hres.out]
          refine ⟨_, rfl, ?_, below_drewN hbw _⟩
          rw [run_length, run_succ, Hn.out, ints_append, ints_one]
          exact owns_base hown' (by omega)
        · have hb0 : (n != t) = true := by simp [hft]
          have hcs : cells f t s = [] := by rw [cells, hcl, if_neg (by simp; omega)]; rfl
          have hres := hid hcs
          clear hft hn2 hg2 hb' hcl hcs
          go_wp2
          go_quiet (fail)
          go_wp2
          go_ret
          rw [hres.out]
          exact ⟨_, rfl, World.ownsRow_nil _ _ _ _, below_drewN hbw _⟩
      · go_wp2_with (at_builtin; refine app1 eInt (.tmp 24) (.tmp 26) rfl rfl rfl rfl rfl hown rfl (by omega) (by omega) (by omega) ?_)
        intro a' cap' w' hown' hg hb' hfr'
        have hB' := hB.trans hb'
        obtain ⟨hc', hfz'⟩ := bcell hB'
        clear hc hfz
        have e1 : n + s = f + ((k + 1 : Nat) : Int) * s := by have := Hn.out; rw [Int.natCast_add, Int.add_mul]; simp; omega
        have e2 : n = f + (((k + 1 : Nat) : Int) - 1) * s := by have := Hn.out; rw [Int.natCast_add]; simpa using this.symm
        have E1 := hid e1
        have E2 := hid e2
        clear e1 e2
        go_wp2
        refine ⟨⟨k + 1, a', cap', by rw [E1.out], rfl, .inr ⟨by rw [← E2.out]; omega, by omega⟩, ?_, hB'⟩, by simp [intOf]; omega⟩
        rw [run_succ, Hn.out, ints_append, ints_one]
        exact hown'
    · have hbw : Below w.heap.size w wr := ((Below.refl _ w).alloc (Nat.le_refl _) _).trans (hB.mono (by omega))
      by_cases hk0 : k = 0
      · subst hk0
        have hcs : cells f t s = [] := cells_none f t s (clen_zero f t s (by have := Hn.out; simp at this; omega))
        have hres := hid hcs
        clear hcs
        go_wp2
        go_quiet (fail)
        go_wp2
        go_ret
        rw [hres.out]
        exact ⟨_, rfl, World.ownsRow_nil _ _ _ _, below_drewN hbw _⟩
      · obtain ⟨g, o, rfl, hg1, hg2⟩ := (owns_sl hown).at (k := 0) (by rw [ints_length, run_length]; omega)
        obtain ⟨m, rfl⟩ : ∃ m, k = m + 1 := ⟨k - 1, by omega⟩
        have hg3 := hg2 m (by rw [ints_length, run_length]; omega)
        simp [ints, run] at hg3
        have hcl := clen_last f t s (m + 1) h1 h3 h4 (by omega) (by omega) (.inl (by have := Hn.out; omega))
        rw [show ((m + 1 : Nat) : Int) - 1 = (m : Int) by omega] at hcl hk
        have hw1 : IntKind.i64.wrap (m : Int) = m := IntWalk.i64_in _ (by omega)
        have hw2 : ((m : Int) + 1 == 0) = false := by simp; omega
        obtain ⟨y, hy⟩ : ∃ y, f + (m : Int) * s = y := ⟨_, rfl⟩
        rw [hy] at hg3 hcl hk
        by_cases hft : y = t
        · have hb0 : (y != t) = false := by simp [hft]
          have hcs : cells f t s = run f s (m + 1) := by rw [cells, hcl, if_pos hft]; rfl
          have hres := hid hcs
          clear hft hg2 hcl hcs hy
          go_wp2
          go_quiet (fail)
          go_wp2
          go_ret
          rw [hres.out]
          refine ⟨_, rfl, ?_, below_drewN hbw _⟩
          rw [run_length]
          exact owns_base hown (by omega)
        · have hb0 : (y != t) = true := by simp [hft]
          have hcs : cells f t s = [] := by rw [cells, hcl, if_neg hft]; rfl
          have hres := hid hcs
          clear hft hg2 hcl hcs hy
          go_wp2
          go_quiet (fail)
          go_wp2
          go_ret
          rw [hres.out]
          exact ⟨_, rfl, World.ownsRow_nil _ _ _ _, below_drewN hbw _⟩
end Go.Proofs.Ytdggflkkojmabaa

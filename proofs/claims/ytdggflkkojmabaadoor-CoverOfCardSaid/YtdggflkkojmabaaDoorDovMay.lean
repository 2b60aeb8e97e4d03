/-
  What cover.may and feriaref03.May answer: whether the numbers rise and lie in 0 .. 9999.
-/
import Derived.Test.YtdggflkkojmabaaDoorMaskRSpan
namespace Go.Proofs.YtdggflkkojmabaaDoor.Cov
open Go.RowKit
set_option linter.unusedVariables false

/-- the call answers a bool, true just if p -/
def BoolIs (p : Prop) (e : Ending) : Prop := ∃ b, e = .returned (.bool b) ∧ (b = true ↔ p)

def May (l : List Int) : Prop := (∀ x ∈ l, 0 ≤ x ∧ x ≤ 9999) ∧ l.Pairwise (· < ·)

theorem may_nil : May [] := ⟨by simp, by simp⟩
theorem may_step (l : List Int) (k : Nat) (hk : k < l.length) :
    May (l.take (k + 1)) ↔ May (l.take k) ∧ 0 ≤ l[k] ∧ l[k] ≤ 9999 ∧ ∀ m, (h : m + 1 = k) → l[m]'(by omega) < l[k] := by
  rw [take_snoc l k hk]
  unfold May
  rw [List.pairwise_append]
  constructor
  · rintro ⟨h1, h2, _, h3⟩
    refine ⟨⟨fun x hx => h1 x (List.mem_append_left _ hx), h2⟩, (h1 l[k] (List.mem_append_right _ (by simp))).1, (h1 l[k] (List.mem_append_right _ (by simp))).2, ?_⟩
    intro m hm
    refine h3 _ ?_ _ (by simp)
    rw [List.mem_take_iff_getElem]
    exact ⟨m, by omega, rfl⟩
  · rintro ⟨⟨h1, h2⟩, h3, h4, h5⟩
    refine ⟨?_, h2, by simp, ?_⟩
    · intro x hx
      rcases List.mem_append.1 hx with hx | hx
      · exact h1 x hx
      · simp at hx; subst hx; exact ⟨h3, h4⟩
    · intro x hx y hy
      simp at hy; subst hy
      obtain ⟨i, hi, rfl⟩ := List.mem_take_iff_getElem.1 hx
      have hkp : 0 < k := by omega
      obtain ⟨m, rfl⟩ : ∃ m, k = m + 1 := ⟨k - 1, by omega⟩
      have hlast := h5 m rfl
      by_cases him : i = m
      · subst him; exact hlast
      · have := (List.pairwise_iff_getElem.1 h2) i m (by simp; omega) (by simp; omega) (by omega)
        simp at this
        omega

theorem may_take {l : List Int} (h : May l) (k : Nat) : May (l.take k) :=
  ⟨fun x hx => h.1 x (List.mem_of_mem_take hx), h.2.sublist (List.take_sublist _ _)⟩
theorem may_drop {l : List Int} (h : May l) (k : Nat) : May (l.drop k) :=
  ⟨fun x hx => h.1 x (List.mem_of_mem_drop hx), h.2.sublist (List.drop_sublist _ _)⟩

set_option maxHeartbeats 400000 in
theorem may_any (a : Option Addr) (cap : Nat) (l : List Int) (w : World) (hl : l.length ≤ 9223372036854775807) (hs : Sl w a (ints l)) :
    Calls Tryd.prog 87 #[.slice a l.length cap] w fun e w' => BoolIs (May l) e ∧ Below w.heap.size w w' := by
  go_enter Tryd.func87, Tryd.ntmps87
  go_wp2
  go_loopw [7] (fun i wr => ∃ k : Nat, i = .int .i64 k ∧ k ≤ l.length ∧ May (l.take k) ∧ Below w.heap.size w wr) (fun i _ => l.length - (intOf i).toNat)
  case atStart => exact ⟨0, rfl, by omega, may_nil, Below.refl _ _⟩
  case round =>
    obtain ⟨k, rfl, hk, hm, hB⟩ := hrel
    by_cases hlt : k < l.length
    · obtain ⟨b, off, rfl, hb, hc⟩ := hs.atInt hlt
      have e1 := (hB.cell (p := ⟨b, off + k, none⟩) hb).trans (hc k hlt)
      have hst := hid (may_step l k hlt)
      have Hm := hid hm
      have e0 : ∀ m, (h : m + 1 = k) → wr.cell? ⟨b, off + m, none⟩ = some (.int .i64 (l[m]'(by omega))) := fun m h => (hB.cell (p := ⟨b, off + m, none⟩) hb).trans (hc m (by omega))
      have no : ¬ May (l.take (k + 1)) → BoolIs (May l) (.returned (.bool false)) := fun h => ⟨false, rfl, by simp; exact fun hm => h (may_take hm _)⟩
      clear hm hs hc
      obtain ⟨x, hx⟩ : ∃ x, l[k] = x := ⟨_, rfl⟩
      rw [hx] at e1 hst
      have Hno := hid no
      clear hx no
      by_cases h1 : x < 0
      · clear e0
        go_wp2
        go_ret
        exact ⟨Hno.out (fun h => by have := (hst.out.1 h).2.1; omega), hB⟩
      by_cases h2 : 9999 < x
      · clear e0
        go_wp2
        go_ret
        exact ⟨Hno.out (fun h => by have := (hst.out.1 h).2.2.1; omega), hB⟩
      rcases Nat.eq_zero_or_pos k with h0 | h0
      · subst h0
        clear e0
        rw [Nat.add_zero] at e1
        go_wp2
        exact ⟨⟨1, by go_num, by omega, hst.out.2 ⟨Hm.out, by omega, by omega, fun m h => by omega⟩, hB⟩, by simp [intOf]; omega⟩
      · obtain ⟨m, rfl⟩ : ∃ m, k = m + 1 := ⟨k - 1, by omega⟩
        have e2 := e0 m rfl
        obtain ⟨y, hy⟩ : ∃ y, l[m] = y := ⟨_, rfl⟩
        have Hy := hid hy
        rw [hy] at e2
        clear hy e0
        by_cases h3 : x ≤ y
        · go_wp2
          go_ret
          exact ⟨Hno.out (fun h => by have := (hst.out.1 h).2.2.2 m rfl; have := Hy.out; omega), hB⟩
        · have hfin : ∀ q, (h : q + 1 = m + 1) → l[q]'(by omega) < x := fun q h => by
            obtain rfl : q = m := by omega
            have := Hy.out
            omega
          have Hfin := hid (hst.out.2 ⟨Hm.out, by omega, by omega, hfin⟩)
          clear hfin
          go_wp2
          exact ⟨⟨m + 1 + 1, by go_num, by omega, Hfin.out, hB⟩, by simp [intOf]; omega⟩
    · have hke : k = l.length := by omega
      have Hke := hid hke
      have Hm := hid hm
      clear hke hm
      go_wp2
      go_ret
      refine ⟨⟨true, rfl, by simp; have := Hm.out; rw [Hke.out, List.take_length] at this; exact this⟩, hB⟩
set_option maxHeartbeats 800000 in
theorem RMay_any (a : Option Addr) (cap : Nat) (l : List Int) (w : World) (hl : l.length ≤ 9223372036854775807) (hs : Sl w a (ints l)) :
    Calls Tryd.prog 89 #[.slice a l.length cap] w fun e w' => BoolIs (May l) e ∧ Below w.heap.size w w' := by
  go_enter Tryd.func89, Tryd.ntmps89
  go_wp2
  go_loopw [3] (fun i wr => ∃ k : Nat, i = .int .i64 k ∧ k ≤ l.length ∧ May (l.take k) ∧ Below w.heap.size w wr) (fun i _ => l.length - (intOf i).toNat)
  case atStart => exact ⟨0, rfl, by omega, may_nil, Below.refl _ _⟩
  case round =>
    obtain ⟨k, rfl, hk, hm, hB⟩ := hrel
    by_cases hlt : k < l.length
    · obtain ⟨b, off, rfl, hb, hc⟩ := hs.atInt hlt
      have e1 := (hB.cell (p := ⟨b, off + k, none⟩) hb).trans (hc k hlt)
      have hst := hid (may_step l k hlt)
      have Hm := hid hm
      have e0 : ∀ m, (h : m + 1 = k) → wr.cell? ⟨b, off + m, none⟩ = some (.int .i64 (l[m]'(by omega))) := fun m h => (hB.cell (p := ⟨b, off + m, none⟩) hb).trans (hc m (by omega))
      have no : ¬ May (l.take (k + 1)) → BoolIs (May l) (.returned (.bool false)) := fun h => ⟨false, rfl, by simp; exact fun hm => h (may_take hm _)⟩
      clear hm hs hc
      obtain ⟨x, hx⟩ : ∃ x, l[k] = x := ⟨_, rfl⟩
      rw [hx] at e1 hst
      have Hno := hid no
      clear hx no
      by_cases h1 : x < 0
      · clear e0
        go_wp2
        go_quiet (fail)
        go_wp2
        go_ret
        exact ⟨Hno.out (fun h => by have := (hst.out.1 h).2.1; omega), below_drewN hB _⟩
      have d1 : decide (x < 0) = false := by simpa using h1
      by_cases h2 : 9999 < x
      · clear e0
        go_wp2
        go_quiet (fail)
        go_wp2
        go_ret
        exact ⟨Hno.out (fun h => by have := (hst.out.1 h).2.2.1; omega), below_drewN hB _⟩
      have d2 : decide (9999 < x) = false := by simpa using h2
      rcases Nat.eq_zero_or_pos k with h0 | h0
      · subst h0
        clear e0
        rw [Nat.add_zero] at e1
        go_wp2
        go_quiet (fail)
        go_wp2
        exact ⟨⟨1, by go_num, by omega, hst.out.2 ⟨Hm.out, by omega, by omega, fun m h => by omega⟩, below_drewN hB _⟩, by simp [intOf]; omega⟩
      · obtain ⟨m, rfl⟩ : ∃ m, k = m + 1 := ⟨k - 1, by omega⟩
        have e2 := e0 m rfl
        have hw1 : IntKind.i64.wrap (m : Int) = m := IntWalk.i64_in _ (by omega)
        obtain ⟨y, hy⟩ : ∃ y, l[m] = y := ⟨_, rfl⟩
        have Hy := hid hy
        rw [hy] at e2
        clear hy e0
        have d0 : decide ((0 : Int) < (m : Int) + 1) = true := by simp
        by_cases h3 : x ≤ y
        · go_wp2
          go_quiet (fail)
          go_wp2
          go_ret
          exact ⟨Hno.out (fun h => by have := (hst.out.1 h).2.2.2 m rfl; have := Hy.out; omega), below_drewN hB _⟩
        · have hfin : ∀ q, (h : q + 1 = m + 1) → l[q]'(by omega) < x := fun q h => by
            obtain rfl : q = m := by omega
            have := Hy.out
            omega
          have Hfin := hid (hst.out.2 ⟨Hm.out, by omega, by omega, hfin⟩)
          clear hfin
          have d3 : decide (x ≤ y) = false := by simpa using h3
          go_wp2
          go_quiet (fail)
          go_wp2
          exact ⟨⟨m + 1 + 1, by go_num, by omega, Hfin.out, below_drewN hB _⟩, by simp [intOf]; omega⟩
    · have hke : k = l.length := by omega
      have Hke := hid hke
      have Hm := hid hm
      clear hke hm
      go_wp2
      go_ret
      refine ⟨⟨true, rfl, by simp; have := Hm.out; rw [Hke.out, List.take_length] at this; exact this⟩, hB⟩
end Go.Proofs.YtdggflkkojmabaaDoor.Cov

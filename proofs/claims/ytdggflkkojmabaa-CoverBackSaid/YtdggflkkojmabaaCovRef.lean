/-
  What feriaref02.Ints, feriaref03.List, cover.Len and cover.List compute: contracts for every input whose slices read as lists.
-/
import Derived.Test.YtdggflkkojmabaaBase
namespace Go.Proofs.Ytdggflkkojmabaa
open Go.RowKit
set_option linter.unusedVariables false

theorem eInt : El Try.prog 24 3 (.int .i64 0) 1 8 := ⟨Try.underlying24, by kernel_rfl, by kernel_rfl, by decide⟩

set_option maxHeartbeats 400000 in
theorem Ints_any (a b : Option Addr) (cn cm : Nat) (x y : List Int) (w : World)
   (hxl : x.length ≤ 9223372036854775807) (hyl : y.length ≤ 9223372036854775807)
   (hx : Sl w a (ints x)) (hy : Sl w b (ints y)) :
    Calls Try.prog 8 #[.slice a x.length cn, .slice b y.length cm] w fun e w' => e = .returned (.bool (decide (x = y))) ∧ Below w.heap.size w w' := by
  by_cases hnm : x.length = y.length
  · have hb' : ((x.length : Int) != (y.length : Int)) = false := by simp; omega
    have HH := hid hnm
    clear hnm
    go_enter Try.func8, Try.ntmps8
    go_wp2
    go_loopw [5] (fun i wr => ∃ k : Nat, i = .int .i64 k ∧ k ≤ x.length ∧ x.take k = y.take k ∧ Below w.heap.size w wr) (fun i _ => x.length - (intOf i).toNat)
    case atStart => exact ⟨0, rfl, by omega, rfl, Below.refl _ _⟩
    case round =>
      obtain ⟨k, rfl, hk, ht, hB⟩ := hrel
      by_cases hlt : k < x.length
      · obtain ⟨b1, o1, rfl, hb1, hc1⟩ := hx.atInt hlt
        have hy' : k < y.length := by rw [← HH.out]; exact hlt
        obtain ⟨b2, o2, rfl, hb2, hc2⟩ := hy.atInt hy'
        have e1 := (hB.cell (p := ⟨b1, o1 + k, none⟩) hb1).trans (hc1 k hlt)
        have e2 := (hB.cell (p := ⟨b2, o2 + k, none⟩) hb2).trans (hc2 k hy')
        have hT := hid ht
        clear hc1 hc2 ht hx hy
        go_wp2
        go_quiet (fail)
        go_wp2
        · have hne : (x[k] != y[k]) = true := by assumption
          go_ret
          refine ⟨ret_bool ?_, below_drewN hB _⟩
          symm
          rw [decide_eq_false_iff_not]
          intro e
          subst e
          simp at hne
        · have hne : (x[k] != y[k]) = false := by assumption
          refine ⟨⟨k + 1, by go_num, by omega, ?_, below_drewN hB _⟩, by simp [intOf]; omega⟩
          rw [take_snoc _ _ hlt, take_snoc _ _ hy', hT.out]
          simp at hne
          rw [hne]
      · have hT := hid ht
        clear ht hx hy
        have hge : x.length ≤ k := by omega
        go_wp2
        go_ret
        refine ⟨ret_bool ?_, hB⟩
        symm
        rw [decide_eq_true_eq]
        have := hT.out
        rwa [List.take_of_length_le hge, List.take_of_length_le (by rw [← HH.out]; exact hge)] at this
  · have hb' : ((x.length : Int) != (y.length : Int)) = true := by simp; omega
    have hf : decide (x = y) = false := by
      rw [decide_eq_false_iff_not]; intro e; subst e; exact hnm rfl
    rw [hf]
    clear hf
    go_enter Try.func8, Try.ntmps8
    go_wp2
    go_ret
    exact ⟨rfl, Below.refl _ _⟩

/-! ### how many numbers a piece has -/
def clen (f t s : Int) : Int := if f < 0 ∨ t < f ∨ 9999 < t ∨ s < 1 ∨ (t - f) % s ≠ 0 then 0 else (t - f) / s + 1

theorem clen_pos (f t s : Int) (h1 : ¬ f < 0) (h2 : ¬ t < f) (h3 : ¬ 9999 < t) (h4 : ¬ s < 1) (h5 : (t - f) % s = 0) : clen f t s = (t - f) / s + 1 := by
  rw [clen, if_neg (by omega)]

theorem div_bd (a s : Int) (h0 : 0 ≤ a) (h1 : a ≤ 9999) (hs : 1 ≤ s) : 0 ≤ a / s ∧ a / s ≤ 9999 := by
  refine ⟨Int.ediv_nonneg h0 (by omega), ?_⟩
  have := Int.ediv_le_self s h0
  omega

theorem clen_bd (f t s : Int) : 0 ≤ clen f t s ∧ clen f t s ≤ 10000 := by
  unfold clen
  split
  · omega
  · have := div_bd (t - f) s (by omega) (by omega) (by omega)
    omega

set_option maxHeartbeats 400000 in
theorem Len_any (f t s : Int) (w : World) :
    Calls Try.prog 7 #[.agg #[.int .i64 f, .int .i64 t, .int .i64 s]] w fun e w' => e = .returned (.int .i64 (clen f t s)) ∧ Below w.heap.size w w' := by
  by_cases h1 : f < 0
  · have hc : clen f t s = 0 := by simp [clen, h1]
    rw [hc]; clear hc
    go_enter Try.func7, Try.ntmps7
    go_wp2
    go_ret
    exact ⟨rfl, (Below.refl _ _).alloc (Nat.le_refl _) _⟩
  by_cases h2 : t < f
  · have hc : clen f t s = 0 := by simp [clen, h2]
    rw [hc]; clear hc
    go_enter Try.func7, Try.ntmps7
    go_wp2
    go_ret
    exact ⟨rfl, (Below.refl _ _).alloc (Nat.le_refl _) _⟩
  by_cases h3 : 9999 < t
  · have hc : clen f t s = 0 := by simp [clen, h3]
    rw [hc]; clear hc
    go_enter Try.func7, Try.ntmps7
    go_wp2
    go_ret
    exact ⟨rfl, (Below.refl _ _).alloc (Nat.le_refl _) _⟩
  by_cases h4 : s < 1
  · have hc : clen f t s = 0 := by simp [clen, h4]
    rw [hc]; clear hc
    go_enter Try.func7, Try.ntmps7
    go_wp2
    go_ret
    exact ⟨rfl, (Below.refl _ _).alloc (Nat.le_refl _) _⟩
  by_cases h5 : (t - f) % s = 0
  · have hc := hid (clen_pos f t s h1 h2 h3 h4 h5)
    have h0 : 0 ≤ t - f := by omega
    have h00 : t - f ≤ 9999 := by omega
    have hd := div_bd (t - f) s h0 h00 (by omega)
    obtain ⟨hd1, hd2⟩ := hd
    have h6 : ((t - f) % s != 0) = false := by simp [h5]
    clear h5
    go_enter Try.func7, Try.ntmps7
    go_wp2
    go_ret
    rw [hc.out]
    exact ⟨rfl, (Below.refl _ _).alloc (Nat.le_refl _) _⟩
  · have hc : clen f t s = 0 := by simp [clen, h5]
    rw [hc]; clear hc
    have h0 : 0 ≤ t - f := by omega
    have h00 : t - f ≤ 9999 := by omega
    have h6 : ((t - f) % s != 0) = true := by simp [h5]
    clear h5
    go_enter Try.func7, Try.ntmps7
    go_wp2
    go_ret
    exact ⟨rfl, (Below.refl _ _).alloc (Nat.le_refl _) _⟩
end Go.Proofs.Ytdggflkkojmabaa

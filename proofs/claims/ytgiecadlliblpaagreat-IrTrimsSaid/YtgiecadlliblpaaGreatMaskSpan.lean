/-
  What mask.Span and feriaref02.Span compute: the mask of the numbers of a span that are a step apart.
-/
import Derived.Test.YtgiecadlliblpaaGreatMaskWalk
namespace Go.Proofs.YtgiecadlliblpaaGreat
open Go.RowKit
set_option linter.unusedVariables false

/-- k is one of a span's numbers -/
def spanB (f t s : Int) (k : Nat) : Bool := decide (1 ≤ s ∧ f ≤ (k : Int) ∧ (k : Int) ≤ t ∧ ((k : Int) - f) % s = 0)
def spanM (f t s : Int) : Nat := mk (spanB f t s)
/-- those below n -/
def spanTo (f t s : Int) (n : Nat) : Nat := mk (fun k => spanB f t s k && decide (k < n))
theorem spanTo_lt (f t s : Int) (n : Nat) : spanTo f t s n < 18446744073709551616 := mk_lt _

theorem mod_between {a b s : Int} (hs : 1 ≤ s) (ha : a % s = 0) (hb : b % s = 0) (h1 : a < b) (h2 : b < a + s) : False := by
  have h := Int.emod_emod_of_dvd (b - a) (Int.dvd_refl s)
  have h3 : (b - a) % s = 0 := by rw [Int.sub_emod, ha, hb]; simp
  have h4 : (b - a) % s = b - a := Int.emod_eq_of_lt (by omega) (by omega)
  omega

theorem spanTo_step (f t s : Int) (n : Nat) (hs : 1 ≤ s) (h64 : n < 64) (hf : f ≤ (n : Int)) (ht : (n : Int) ≤ t) (hm : ((n : Int) - f) % s = 0) (q : Nat) (hq : (q : Int) = n + s ∨ 64 ≤ q ∧ (q : Int) ≤ n + s) :
    spanTo f t s n ||| 2 ^ n = spanTo f t s q := by
  refine eq_mk (or_lt (mk_lt _) (pow_lt h64)) (fun k hk => ?_)
  rw [Nat.testBit_or, spanTo, mk_test, Nat.testBit_two_pow]
  by_cases hkn : n = k
  · subst hkn
    have : spanB f t s n = true := by simp only [spanB, decide_eq_true_eq]; exact ⟨hs, hf, ht, hm⟩
    simp [this]
    omega
  · rcases Nat.lt_or_gt_of_ne hkn with h | h
    · by_cases hb : spanB f t s k = true
      · simp only [spanB, decide_eq_true_eq] at hb
        have hbq : ¬ (k : Int) < n + s := fun h2 => mod_between hs hm hb.2.2.2 (by omega) (by omega)
        have e1 : ¬ k < n := by omega
        have e2 : ¬ k < q := by omega
        simp [hkn, e1, e2]
      · simp [hb, hkn]
    · have e1 : k < n := h
      have e2 : k < q := by omega
      simp [hkn, e1, e2, hk]

theorem spanTo_all (f t s : Int) (n : Nat) (h : 64 ≤ n ∨ t < (n : Int)) : spanTo f t s n = spanM f t s :=
  mk_congr fun k hk => by
    rcases h with h | h
    · simp [show k < n by omega]
    · by_cases hb : spanB f t s k = true
      · simp only [spanB, decide_eq_true_eq] at hb
        simp [show k < n by omega]
      · simp [hb]

/-- at the beginning: no number of the span lies below n -/
theorem spanTo_start (f t s : Int) (n : Nat) (hs : 1 ≤ s) (hm : ((n : Int) - f) % s = 0) (h : (n : Int) = f ∨ (n : Int) < s) : spanTo f t s n = 0 := by
  rw [← mk_false]
  refine mk_congr fun k hk => ?_
  by_cases hb : spanB f t s k = true
  · simp only [spanB, decide_eq_true_eq] at hb
    have : ¬ k < n := by
      intro hkn
      rcases h with h | h
      · omega
      · exact mod_between hs hb.2.2.2 hm (by omega) (by omega)
    simp [this]
  · simp [hb]

theorem span_none (f t s : Int) (h : s < 1) : spanM f t s = 0 := by
  rw [spanM, ← mk_false]
  exact mk_congr fun k _ => by simp [spanB]; omega

set_option maxHeartbeats 800000 in
theorem Span_any (f t s : Int) (w : World) (hf : -9223372036854775808 ≤ f ∧ f ≤ 9223372036854775807) (hsm : s ≤ 9223372036854775807) :
    Calls Tryz.prog 55 #[.int .i64 f, .int .i64 t, .int .i64 s] w fun e w' => e = .returned (.int .u64 (spanM f t s)) ∧ w = w' := by
  obtain ⟨hf1, hf2⟩ := hf
  by_cases hs : s < 1
  · have hr := hid (span_none f t s hs)
    go_enter Tryz.func55, Tryz.ntmps55
    go_wp2
    go_ret
    rw [hr.out]; exact ⟨rfl, rfl⟩
  by_cases h0 : f < 0
  · obtain ⟨r, hr⟩ : ∃ r, (f + 1).tmod s = r := ⟨_, rfl⟩
    have hr1 : -s < r ∧ r ≤ 0 := by
      subst hr
      rw [show f + 1 = -(-(f + 1)) by omega, Int.neg_tmod, Int.tmod_eq_emod_of_nonneg (by omega)]
      have := Int.emod_nonneg (-(f + 1)) (show s ≠ 0 by omega)
      have := Int.emod_lt_of_pos (-(f + 1)) (show 0 < s by omega)
      omega
    obtain ⟨n0, hn0⟩ := Int.eq_ofNat_of_zero_le (show 0 ≤ r - 1 + s by omega)
    have hmod : ((n0 : Int) - f) % s = 0 := by
      rw [← hn0, ← hr]
      have := Int.tmod_add_mul_tdiv (f + 1) s
      rw [show (f + 1).tmod s - 1 + s - f = s * (1 - (f + 1).tdiv s) by rw [Int.mul_sub]; omega]
      exact Int.mul_emod_right _ _
    have Hst := hid (spanTo_start f t s n0 (by omega) hmod (.inr (by omega)))
    have Hmod := hid hmod
    have Hn0 := hid hn0
    have hn1 : f ≤ (n0 : Int) := by omega
    have hn2 : (n0 : Int) < s := by omega
    obtain ⟨hr2, hr3⟩ := hr1
    clear hmod hn0
    go_enter Tryz.func55, Tryz.ntmps55
    go_wp2
    rw [Hn0.out]
    go_loop [7, 8] (fun v i => ∃ n : Nat, i = .int .i64 n ∧ v = .int .u64 (spanTo f t s n) ∧ f ≤ (n : Int) ∧ ((n : Int) - f) % s = 0) (fun _ i => (64 - intOf i).toNat)
    case atStart => exact ⟨n0, rfl, by rw [Hst.out]; rfl, hn1, Hmod.out⟩
    case round =>
      obtain ⟨n, rfl, rfl, hfn, hm⟩ := hrel
      have Hm := hid hm
      have Hall := hid (spanTo_all f t s n)
      obtain ⟨M, hM⟩ : ∃ M, spanTo f t s n = M := ⟨_, rfl⟩
      have HM := hid hM
      rw [hM] at Hall ⊢
      have hMl : M < 18446744073709551616 := by rw [← hM]; exact mk_lt _
      clear hM hm
      by_cases h64 : 64 ≤ n
      · have hr := hid (Hall.out (.inl h64))
        go_wp2
        go_ret
        rw [hr.out]; exact ⟨rfl, rfl⟩
      by_cases hnt : t < (n : Int)
      · have hr := hid (Hall.out (.inr hnt))
        go_wp2
        go_ret
        rw [hr.out]; exact ⟨rfl, rfl⟩
      have hn64 : n < 64 := by omega
      have hor := hid (bits_or hMl (pow_lt hn64))
      by_cases h65 : 64 ≤ s
      · have hst := spanTo_step f t s n (by omega) hn64 hfn (by omega) Hm.out 64 (.inr ⟨by omega, by omega⟩)
        have hr : Hid (M ||| 2 ^ n = spanM f t s) := by show M ||| 2 ^ n = spanM f t s; rw [← HM.out, hst]; exact spanTo_all f t s 64 (.inl (by omega))
        clear hst
        go_wp2
        go_ret
        rw [wrap_pow hn64, hor.out, hr.out]; exact ⟨rfl, rfl⟩
      · obtain ⟨q, hq⟩ := Int.eq_ofNat_of_zero_le (show 0 ≤ (n : Int) + s by omega)
        have hst := hid (spanTo_step f t s n (by omega) hn64 hfn (by omega) Hm.out q (.inl hq.symm))
        have hq2 : ((q : Int) - f) % s = 0 := by rw [← hq, show (n : Int) + s - f = ((n : Int) - f) + s by omega, Int.add_emod, Hm.out]; simp
        have Hq := hid hq
        have Hq2 := hid hq2
        have hq3 : f ≤ (q : Int) := by omega
        have hq4 : (64 - ((n : Int) + s)).toNat < (64 - (n : Int)).toNat := by omega
        clear hq hq2
        go_wp2
        refine ⟨⟨q, by rw [Hq.out], ?_, hq3, Hq2.out⟩, by simp only [intOf]; exact hq4⟩
        rw [wrap_pow hn64, hor.out, ← HM.out, hst.out]
  · obtain ⟨n0, rfl⟩ := Int.eq_ofNat_of_zero_le (by omega : 0 ≤ f)
    have hmod : ((n0 : Int) - (n0 : Int)) % s = 0 := by simp
    have Hst := hid (spanTo_start (n0 : Int) t s n0 (by omega) hmod (.inl rfl))
    have Hmod := hid hmod
    have hn1 : (n0 : Int) ≤ (n0 : Int) := by omega
    clear hmod
    go_enter Tryz.func55, Tryz.ntmps55
    go_wp2
    go_loop [7, 8] (fun v i => ∃ n : Nat, i = .int .i64 n ∧ v = .int .u64 (spanTo (n0 : Int) t s n) ∧ (n0 : Int) ≤ (n : Int) ∧ ((n : Int) - (n0 : Int)) % s = 0) (fun _ i => (64 - intOf i).toNat)
    case atStart => exact ⟨n0, rfl, by rw [Hst.out]; rfl, hn1, Hmod.out⟩
    case round =>
      obtain ⟨n, rfl, rfl, hfn, hm⟩ := hrel
      have Hm := hid hm
      have Hall := hid (spanTo_all (n0 : Int) t s n)
      obtain ⟨M, hM⟩ : ∃ M, spanTo (n0 : Int) t s n = M := ⟨_, rfl⟩
      have HM := hid hM
      rw [hM] at Hall ⊢
      have hMl : M < 18446744073709551616 := by rw [← hM]; exact mk_lt _
      clear hM hm
      by_cases h64 : 64 ≤ n
      · have hr := hid (Hall.out (.inl h64))
        go_wp2
        go_ret
        rw [hr.out]; exact ⟨rfl, rfl⟩
      by_cases hnt : t < (n : Int)
      · have hr := hid (Hall.out (.inr hnt))
        go_wp2
        go_ret
        rw [hr.out]; exact ⟨rfl, rfl⟩
      have hn64 : n < 64 := by omega
      have hor := hid (bits_or hMl (pow_lt hn64))
      by_cases h65 : 64 ≤ s
      · have hst := spanTo_step (n0 : Int) t s n (by omega) hn64 hfn (by omega) Hm.out 64 (.inr ⟨by omega, by omega⟩)
        have hr : Hid (M ||| 2 ^ n = spanM (n0 : Int) t s) := by show M ||| 2 ^ n = spanM (n0 : Int) t s; rw [← HM.out, hst]; exact spanTo_all (n0 : Int) t s 64 (.inl (by omega))
        clear hst
        go_wp2
        go_ret
        rw [wrap_pow hn64, hor.out, hr.out]; exact ⟨rfl, rfl⟩
      · obtain ⟨q, hq⟩ := Int.eq_ofNat_of_zero_le (show 0 ≤ (n : Int) + s by omega)
        have hst := hid (spanTo_step (n0 : Int) t s n (by omega) hn64 hfn (by omega) Hm.out q (.inl hq.symm))
        have hq2 : ((q : Int) - (n0 : Int)) % s = 0 := by rw [← hq, show (n : Int) + s - (n0 : Int) = ((n : Int) - (n0 : Int)) + s by omega, Int.add_emod, Hm.out]; simp
        have Hq := hid hq
        have Hq2 := hid hq2
        have hq3 : (n0 : Int) ≤ (q : Int) := by omega
        have hq4 : (64 - ((n : Int) + s)).toNat < (64 - (n : Int)).toNat := by omega
        clear hq hq2
        go_wp2
        refine ⟨⟨q, by rw [Hq.out], ?_, hq3, Hq2.out⟩, by simp only [intOf]; exact hq4⟩
        rw [wrap_pow hn64, hor.out, ← HM.out, hst.out]
end Go.Proofs.YtgiecadlliblpaaGreat

/-
  What feriaref02.Span and feriaref02.List compute.
-/
import Derived.Test.YtdggflkkojmabaaDoorMaskSpan
namespace Go.Proofs.YtdggflkkojmabaaDoor
open Go.RowKit
set_option linter.unusedVariables false

theorem eInt : El Tryd.prog 22 3 (.int .i64 0) 1 8 := ⟨Tryd.underlying22, by kernel_rfl, by kernel_rfl, by decide⟩

/-- the numbers below n of which p holds, rising -/
def sel (p : Nat → Bool) (n : Nat) : List Int := ((List.range n).filter p).map (fun (k : Nat) => (k : Int))
theorem sel_zero (p : Nat → Bool) : sel p 0 = [] := rfl
theorem sel_yes {p : Nat → Bool} {n : Nat} (h : p n = true) : sel p (n + 1) = sel p n ++ [(n : Int)] := by simp [sel, List.range_succ, h]
theorem sel_no {p : Nat → Bool} {n : Nat} (h : p n = false) : sel p (n + 1) = sel p n := by simp [sel, List.range_succ, h]
theorem sel_len (p : Nat → Bool) (n : Nat) : (sel p n).length ≤ n := by
  simp only [sel, List.length_map]
  exact Nat.le_trans (List.length_filter_le _ _) (by simp)
theorem sel_mem {p : Nat → Bool} {n : Nat} {x : Int} : x ∈ sel p n ↔ ∃ k : Nat, k < n ∧ p k = true ∧ x = (k : Int) := by
  simp only [sel, List.mem_map, List.mem_filter, List.mem_range]
  constructor
  · rintro ⟨k, ⟨h1, h2⟩, rfl⟩; exact ⟨k, h1, h2, rfl⟩
  · rintro ⟨k, h1, h2, rfl⟩; exact ⟨k, ⟨h1, h2⟩, rfl⟩
theorem ofM_sel (p : Nat → Bool) : ofM (sel p 64) = mk p :=
  mk_congr fun i hi => by
    rw [Bool.eq_iff_iff, inB, decide_eq_true_eq, sel_mem]
    constructor
    · rintro ⟨k, _, h, e⟩
      obtain rfl : i = k := by omega
      exact h
    · intro h; exact ⟨i, hi, h, rfl⟩

theorem tmod_bd {f s : Int} (hs : 1 ≤ s) : -s < f.tmod s ∧ f.tmod s < s ∧ (f.tmod s < 0 → f % s = f.tmod s + s) ∧ (0 ≤ f.tmod s → f % s = f.tmod s) := by
  have h1 := Int.emod_nonneg f (show s ≠ 0 by omega)
  have h2 := Int.emod_lt_of_pos f (show 0 < s by omega)
  have h3 := Int.tmod_add_mul_tdiv f s
  have h4 : -s < f.tmod s ∧ f.tmod s < s := by
    by_cases h : 0 ≤ f
    · rw [Int.tmod_eq_emod_of_nonneg h]; omega
    · rw [show f = -(-f) by omega, Int.neg_tmod, Int.tmod_eq_emod_of_nonneg (by omega)]
      have := Int.emod_nonneg (-f) (show s ≠ 0 by omega)
      have := Int.emod_lt_of_pos (-f) (show 0 < s by omega)
      omega
  refine ⟨h4.1, h4.2, fun h => ?_, fun h => ?_⟩
  · rw [← h3, Int.add_mul_emod_self_left]
    have : (f.tmod s + s) % s = f.tmod s + s := Int.emod_eq_of_lt (by omega) (by omega)
    rw [h3, ← this, Int.add_emod_right]
  · rw [← h3, Int.add_mul_emod_self_left, h3]
    exact Int.emod_eq_of_lt h (by omega)

/-- the document's test is the program's -/
theorem spanB_iff {f t s : Int} {n : Nat} (hs : 1 ≤ s) : spanB f t s n = (decide (f ≤ (n : Int)) && decide ((n : Int) ≤ t) && ((n : Int) % s == f % s)) := by
  have e : ((n : Int) - f) % s = 0 ↔ (n : Int) % s = f % s := by
    rw [← Int.emod_eq_emod_iff_emod_sub_eq_zero]
  rw [Bool.eq_iff_iff]
  simp [spanB, hs, e, and_assoc]

set_option maxHeartbeats 800000 in
theorem RSpan_any (f t s : Int) (w : World) (hf : -9223372036854775808 ≤ f ∧ f ≤ 9223372036854775807) (hsm : s ≤ 9223372036854775807) :
    Calls Tryd.prog 22 #[.int .i64 f, .int .i64 t, .int .i64 s] w fun e w' => e = .returned (.int .u64 (spanM f t s)) ∧ Below w.heap.size w w' := by
  obtain ⟨hf1, hf2⟩ := hf
  by_cases hs : s < 1
  · have hr := hid (span_none f t s hs)
    go_enter Tryd.func22, Tryd.ntmps22
    go_wp2
    go_loopw [7, 8] (fun v i wr => i = .int .i64 0 ∧ v = .slice none 0 0 ∧ wr = w) (fun _ _ _ => 0)
    case atStart => exact ⟨rfl, rfl, rfl⟩
    case round =>
      obtain ⟨rfl, rfl, rfl⟩ := hrel
      go_wp2_with (go_at_call 20; refine (ROf_any _ _ [] _ (by decide) (Sl.nil _ _)).mono ?_; rintro e w1 ⟨rfl, hb1⟩)
      go_ret
      rw [hr.out, ofM_nil]
      exact ⟨rfl, hb1⟩
  · obtain ⟨b, hb⟩ : ∃ b, f.tmod s = b := ⟨_, rfl⟩
    have hbd := tmod_bd (f := f) (s := s) (by omega)
    rw [hb] at hbd
    obtain ⟨hb1, hb2, hb3, hb4⟩ := hbd
    have Hb := hid hb
    have Hb3 := hid hb3
    have Hb4 := hid hb4
    clear hb3 hb4
    go_enter Tryd.func22, Tryd.ntmps22
    go_wp2
    go_loopw [7, 8] (fun v i wr => ∃ (n m cap : Nat) (a : Option Addr), i = .int .i64 n ∧ n ≤ 64 ∧ v = .slice a m cap ∧ m ≤ n ∧ wr.ownsRow w.heap.size 3 1 (.slice a m cap) m (ints (sel (spanB f t s) n)) ∧ Below w.heap.size w wr) (fun _ i _ => (64 - intOf i).toNat)
    case atStart => exact ⟨0, 0, 0, none, rfl, by omega, rfl, by omega, World.ownsRow_nil _ _ _ _, Below.refl _ _⟩
    case round =>
      obtain ⟨n, m, cap, a, rfl, hn, rfl, hm, hown, hB⟩ := hrel
      by_cases hlt : n < 64
      · have hiff := spanB_iff (f := f) (t := t) (s := s) (n := n) (by omega)
        have Hiff := hid hiff
        have hsz := hB.size
        obtain ⟨x, hx⟩ : ∃ x, (n : Int) % s = x := ⟨_, rfl⟩
        have hxb : 0 ≤ x ∧ x < s := by rw [← hx]; exact ⟨Int.emod_nonneg _ (by omega), Int.emod_lt_of_pos _ (by omega)⟩
        obtain ⟨hx1, hx2⟩ := hxb
        have Hx := hid hx
        clear hiff
        by_cases hbn : b < 0
        · have hfs := Hb3.out hbn
          have Hfs := hid hfs
          clear hfs
          have hown' : ∀ q, (wr.drewN q).ownsRow w.heap.size 3 1 (.slice a m cap) m (ints (sel (spanB f t s) n)) := fun _ => hown
          have hB' : ∀ q, Below w.heap.size w (wr.drewN q) := fun q => below_drewN hB q
          by_cases c1 : f ≤ (n : Int)
          · by_cases c2 : (n : Int) ≤ t
            · by_cases c3 : x = b + s
              · have hy : spanB f t s n = true := by rw [Hiff.out, Hx.out, Hfs.out, c3]; simp [c1, c2]
                have hb3 : (x == b + s) = true := by simp [c3]
                have Hy := hid (sel_yes hy)
                clear hy c3
                go_wp2
                go_quiet (fail)
                go_wp2_with (at_builtin; refine app1 eInt (.tmp 43) (.tmp 45) rfl rfl rfl rfl rfl (hown' _) rfl (by omega) (by omega) (by simp; omega) ?_)
                intro a' cap' w' hown2 hg2 hb2 hf2
                have hB2 := (hB' _).trans hb2
                rw [← ints_one, ← ints_append, ← Hy.out] at hown2
                go_wp2
                exact ⟨⟨n + 1, m + 1, cap', a', by go_num, by omega, rfl, by omega, hown2, hB2⟩, by simp [intOf]; omega⟩
              · have hy : spanB f t s n = false := by rw [Hiff.out, Hx.out, Hfs.out]; simp [c3]
                have hb3 : (x == b + s) = false := by simp [c3]
                have Hy := hid (sel_no hy)
                clear hy c3
                go_wp2
                go_quiet (fail)
                go_wp2
                exact ⟨⟨n + 1, m, cap, a, by go_num, by omega, rfl, by omega, by rw [Hy.out]; exact hown' _, hB' _⟩, by simp [intOf]; omega⟩
            · have hy : spanB f t s n = false := by rw [Hiff.out]; simp [c2]
              have Hy := hid (sel_no hy)
              clear hy
              go_wp2
              go_quiet (fail)
              go_wp2
              exact ⟨⟨n + 1, m, cap, a, by go_num, by omega, rfl, by omega, by rw [Hy.out]; exact hown' _, hB' _⟩, by simp [intOf]; omega⟩
          · have hy : spanB f t s n = false := by rw [Hiff.out]; simp [c1]
            have Hy := hid (sel_no hy)
            clear hy
            go_wp2
            go_quiet (fail)
            go_wp2
            exact ⟨⟨n + 1, m, cap, a, by go_num, by omega, rfl, by omega, by rw [Hy.out]; exact hown' _, hB' _⟩, by simp [intOf]; omega⟩
        · have hfs := Hb4.out (by omega)
          have Hfs := hid hfs
          clear hfs
          have hown' : ∀ q, (wr.drewN q).ownsRow w.heap.size 3 1 (.slice a m cap) m (ints (sel (spanB f t s) n)) := fun _ => hown
          have hB' : ∀ q, Below w.heap.size w (wr.drewN q) := fun q => below_drewN hB q
          by_cases c1 : f ≤ (n : Int)
          · by_cases c2 : (n : Int) ≤ t
            · by_cases c3 : x = b
              · have hy : spanB f t s n = true := by rw [Hiff.out, Hx.out, Hfs.out, c3]; simp [c1, c2]
                have hb3 : (x == b) = true := by simp [c3]
                have Hy := hid (sel_yes hy)
                clear hy c3
                go_wp2
                go_quiet (fail)
                go_wp2_with (at_builtin; refine app1 eInt (.tmp 43) (.tmp 45) rfl rfl rfl rfl rfl (hown' _) rfl (by omega) (by omega) (by simp; omega) ?_)
                intro a' cap' w' hown2 hg2 hb2 hf2
                have hB2 := (hB' _).trans hb2
                rw [← ints_one, ← ints_append, ← Hy.out] at hown2
                go_wp2
                exact ⟨⟨n + 1, m + 1, cap', a', by go_num, by omega, rfl, by omega, hown2, hB2⟩, by simp [intOf]; omega⟩
              · have hy : spanB f t s n = false := by rw [Hiff.out, Hx.out, Hfs.out]; simp [c3]
                have hb3 : (x == b) = false := by simp [c3]
                have Hy := hid (sel_no hy)
                clear hy c3
                go_wp2
                go_quiet (fail)
                go_wp2
                exact ⟨⟨n + 1, m, cap, a, by go_num, by omega, rfl, by omega, by rw [Hy.out]; exact hown' _, hB' _⟩, by simp [intOf]; omega⟩
            · have hy : spanB f t s n = false := by rw [Hiff.out]; simp [c2]
              have Hy := hid (sel_no hy)
              clear hy
              go_wp2
              go_quiet (fail)
              go_wp2
              exact ⟨⟨n + 1, m, cap, a, by go_num, by omega, rfl, by omega, by rw [Hy.out]; exact hown' _, hB' _⟩, by simp [intOf]; omega⟩
          · have hy : spanB f t s n = false := by rw [Hiff.out]; simp [c1]
            have Hy := hid (sel_no hy)
            clear hy
            go_wp2
            go_quiet (fail)
            go_wp2
            exact ⟨⟨n + 1, m, cap, a, by go_num, by omega, rfl, by omega, by rw [Hy.out]; exact hown' _, hB' _⟩, by simp [intOf]; omega⟩
      · have hn64 : n = 64 := by omega
        subst hn64
        have hsl := owns_sl hown
        have hml : m = (sel (spanB f t s) 64).length := by have := hown.1; rw [ints_length] at this; omega
        have hlen := sel_len (spanB f t s) 64
        have hc : Calls Tryd.prog 20 #[.slice a m cap] wr fun e w' => e = .returned (.int .u64 (spanM f t s)) ∧ Below wr.heap.size wr w' := by
          rw [hml]
          exact (ROf_any a cap _ wr (by omega) hsl).mono fun e w' ⟨h1, h2⟩ => ⟨by rw [h1, ofM_sel]; rfl, h2⟩
        have Hc := hid hc
        have hsz := hB.size
        clear hml hc hown hsl
        go_wp2_with (go_at_call 20; refine Hc.out.mono ?_; rintro e w1 ⟨rfl, hb1⟩)
        go_ret
        exact ⟨rfl, hB.trans (hb1.mono hsz)⟩
end Go.Proofs.YtdggflkkojmabaaDoor

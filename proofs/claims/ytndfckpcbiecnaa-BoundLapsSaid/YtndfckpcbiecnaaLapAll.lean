/-
  math/bits.Mul64, num.size, num.Times, num.Mod, num.Gcd.
  moment.Join, span.Day, span.Days, span.Meet and span.Cut of the window; unit.Phase.
  span.Cut of the window, on its first and its last day.
  lap.Laps' function, of a clause of the whole window that may be.
  What clause.Days hands back stays what it is while its own blocks stay (for lap.Laps, which stores into other ones).
  lap.Laps, of a clause of the whole window that may be.
  lap.On, of a clause of the whole window that may be.
-/
import Derived.Test.YtndfckpcbiecnaaClBase
import Derived.Lib.Mul64
import Derived.BigQuiet
import Derived.Test.YtndfckpcbiecnaaClSpan
import Derived.Test.YtndfckpcbiecnaaUnitOn
import Derived.Test.YtndfckpcbiecnaaClFull
import Derived.Deep.RegionHeld3
import Derived.Test.YtndfckpcbiecnaaClLive
import Derived.Test.YtndfckpcbiecnaaClHasFn
import Derived.Deep.Heap
namespace Go.Proofs.Ytndfckpcbiecnaa
open Go.RowKit
set_option linter.unusedVariables false

theorem and32 (x : Nat) (hx : x < 18446744073709551616) : bits .and .u64 (x : Int) 4294967295 = ((x % 4294967296 : Nat) : Int) := by
  have h := bits_and (a := x) (b := 4294967295) hx (by decide)
  rw [show (4294967295 : Nat) = 2 ^ 32 - 1 from rfl, Nat.and_two_pow_sub_one_eq_mod] at h
  exact h
theorem u64w (n : Nat) (h : n < 18446744073709551616) : IntKind.u64.wrap (n : Int) = n := by
  rw [IntKind.wrap_u64]; omega
set_option maxHeartbeats 1600000 in
theorem Mul64_any (x y : Nat) (w : World) (hx : x < 18446744073709551616) (hy : y < 18446744073709551616) :
    Calls Try.prog 163 #[.int .u64 x, .int .u64 y] w fun e w' => e = .returned (.tuple #[.int .u64 ((x * y / 18446744073709551616 : Nat)), .int .u64 ((x * y % 18446744073709551616 : Nat))]) ∧ w = w' := by
  have h1 := and32 x hx
  have h2 := and32 y hy
  go_enter Try.func163, Try.ntmps163
  go_wp2
  clear h1 h2
  go_ret2
  refine ⟨?_, rfl⟩
  obtain ⟨g1, g2, g3, g4⟩ := Go.Lib.mul64_hi x y hx hy
  have hlo : IntKind.u64.wrap ((x : Int) * (y : Int)) = ((x * y % 18446744073709551616 : Nat) : Int) := by
    rw [IntKind.wrap_u64, ← Int.natCast_mul]; omega
  have k1 : ((x : Int) / 4294967296 * ((y : Int) / 4294967296)) = ((x / 4294967296 * (y / 4294967296) : Nat) : Int) := by rw [Int.natCast_mul, Int.natCast_ediv, Int.natCast_ediv]; rfl
  have k2 : ((x : Int) / 4294967296 * ((y : Int) % 4294967296)) = ((x / 4294967296 * (y % 4294967296) : Nat) : Int) := by rw [Int.natCast_mul, Int.natCast_ediv, Int.natCast_emod]; rfl
  have k3 : ((x : Int) % 4294967296 * ((y : Int) / 4294967296)) = ((x % 4294967296 * (y / 4294967296) : Nat) : Int) := by rw [Int.natCast_mul, Int.natCast_emod, Int.natCast_ediv]; rfl
  have k4 : ((x : Int) % 4294967296 * ((y : Int) % 4294967296)) = ((x % 4294967296 * (y % 4294967296) : Nat) : Int) := by rw [Int.natCast_mul, Int.natCast_emod, Int.natCast_emod]; rfl
  have b1 := Go.Lib.half_mul_le (a := x / 4294967296) (b := y / 4294967296) (by omega) (by omega)
  have b2 := Go.Lib.half_mul_le (a := x / 4294967296) (b := y % 4294967296) (by omega) (by omega)
  have b3 := Go.Lib.half_mul_le (a := x % 4294967296) (b := y / 4294967296) (by omega) (by omega)
  have b4 := Go.Lib.half_mul_le (a := x % 4294967296) (b := y % 4294967296) (by omega) (by omega)
  rw [hlo, k1, k2, k3, k4, ← g4]
  generalize x / 4294967296 * (y / 4294967296) = A at *
  generalize x / 4294967296 * (y % 4294967296) = B at *
  generalize x % 4294967296 * (y / 4294967296) = C at *
  generalize x % 4294967296 * (y % 4294967296) = D at *
  rw [u64w A (by omega), u64w B (by omega), u64w C (by omega), u64w D (by omega)]
  have e1 : IntKind.u64.wrap ((B : Int) + (D : Int) / 4294967296) = ((B + D / 4294967296 : Nat) : Int) := by rw [IntKind.wrap_u64]; omega
  rw [e1, and32 _ (by omega)]
  have e2 : IntKind.u64.wrap ((((B + D / 4294967296) % 4294967296 : Nat) : Int) + (C : Int)) = (((B + D / 4294967296) % 4294967296 + C : Nat) : Int) := by rw [IntKind.wrap_u64]; omega
  rw [e2]
  have e3 : IntKind.u64.wrap (IntKind.u64.wrap ((A : Int) + ((B + D / 4294967296 : Nat) : Int) / 4294967296) + (((B + D / 4294967296) % 4294967296 + C : Nat) : Int) / 4294967296) = ((A + (B + D / 4294967296) / 4294967296 + ((B + D / 4294967296) % 4294967296 + C) / 4294967296 : Nat) : Int) := by
    rw [IntKind.wrap_u64, IntKind.wrap_u64]; omega
  rw [e3]; rfl
theorem NSize_any (n : Int) (w : World) (h : i64B n) : Calls Try.prog 162 #[.int .i64 n] w fun e w' => e = .returned (.int .u64 (n.natAbs : Nat)) ∧ w = w' := by
  obtain ⟨h0, h1⟩ := h
  by_cases hn : n < 0
  · go_enter Try.func162, Try.ntmps162
    go_wp2
    go_ret
    exact ⟨by rw [show IntKind.u64.wrap (-IntKind.u64.wrap n) = (n.natAbs : Int) by rw [IntKind.wrap_u64, IntKind.wrap_u64]; omega]; rfl, rfl⟩
  · go_enter Try.func162, Try.ntmps162
    go_wp2
    go_ret
    exact ⟨by rw [show n = (n.natAbs : Int) by omega]; rfl, rfl⟩
/-- Times, of numbers that are not below 0 -/
theorem Times_any (x y : Nat) (w : World) (hx : x < 9223372036854775808) (hy : y < 9223372036854775808) :
    Calls Try.prog 120 #[.int .i64 x, .int .i64 y] w fun e w' => e = .returned (if x * y < 9223372036854775808 then .tuple #[.int .i64 ((x * y : Nat)), .bool true] else .tuple #[.int .i64 0, .bool false]) ∧ w = w' := by
  have c1 := hid (fun W => NSize_any (x : Int) W ⟨by omega, by omega⟩)
  have c2 := hid (fun W => NSize_any (y : Int) W ⟨by omega, by omega⟩)
  have c3 := hid (fun W => Mul64_any x y W (by omega) (by omega))
  rw [Int.natAbs_natCast] at c1 c2
  obtain ⟨p, hp⟩ : ∃ p, x * y = p := ⟨_, rfl⟩
  rw [hp] at c3 ⊢
  clear hp
  have hx0 : ¬ (x : Int) < 0 := by omega
  have hy0 : ¬ (y : Int) < 0 := by omega
  by_cases h : p < 9223372036854775808
  · rw [if_pos h]
    have e1 : p / 18446744073709551616 = 0 := by omega
    have e2 : p % 18446744073709551616 = p := by omega
    rw [e1, e2] at c3
    clear e1 e2
    go_enter Try.func120, Try.ntmps120
    go_wp2_with (first
      | (go_at_call 162; with_reducible refine (c1.out _).mono ?_; rintro e w' ⟨rfl, rfl⟩)
      | (go_at_call 162; with_reducible refine (c2.out _).mono ?_; rintro e w' ⟨rfl, rfl⟩)
      | (go_at_call 163; with_reducible refine (c3.out _).mono ?_; rintro e w' ⟨rfl, rfl⟩))
    go_ret2
    exact ⟨rfl, rfl⟩
  · rw [if_neg h]
    by_cases h2 : p < 18446744073709551616
    · have e1 : p / 18446744073709551616 = 0 := by omega
      have e2 : p % 18446744073709551616 = p := by omega
      rw [e1, e2] at c3
      clear e1 e2
      have hp1 : (9223372036854775808 : Int) < (p : Int) ∨ (p : Int) = 9223372036854775808 := by omega
      rcases hp1 with hp1 | hp1
      · go_enter Try.func120, Try.ntmps120
        go_wp2_with (first
          | (go_at_call 162; with_reducible refine (c1.out _).mono ?_; rintro e w' ⟨rfl, rfl⟩)
          | (go_at_call 162; with_reducible refine (c2.out _).mono ?_; rintro e w' ⟨rfl, rfl⟩)
          | (go_at_call 163; with_reducible refine (c3.out _).mono ?_; rintro e w' ⟨rfl, rfl⟩))
        go_ret2
        exact ⟨rfl, rfl⟩
      · obtain rfl : p = 9223372036854775808 := by omega
        go_enter Try.func120, Try.ntmps120
        go_wp2_with (first
          | (go_at_call 162; with_reducible refine (c1.out _).mono ?_; rintro e w' ⟨rfl, rfl⟩)
          | (go_at_call 162; with_reducible refine (c2.out _).mono ?_; rintro e w' ⟨rfl, rfl⟩)
          | (go_at_call 163; with_reducible refine (c3.out _).mono ?_; rintro e w' ⟨rfl, rfl⟩))
        go_ret2
        exact ⟨rfl, rfl⟩
    · obtain ⟨q, hq⟩ : ∃ q, p / 18446744073709551616 = q := ⟨_, rfl⟩
      obtain ⟨r, hr⟩ : ∃ r, p % 18446744073709551616 = r := ⟨_, rfl⟩
      have hq1 : 0 < q := by omega
      rw [hq, hr] at c3
      clear hq hr h h2
      have hqb : ((q : Int) == 0) = false := by simp; omega
      go_enter Try.func120, Try.ntmps120
      go_wp2_with (first
        | (go_at_call 162; with_reducible refine (c1.out _).mono ?_; rintro e w' ⟨rfl, rfl⟩)
        | (go_at_call 162; with_reducible refine (c2.out _).mono ?_; rintro e w' ⟨rfl, rfl⟩)
        | (go_at_call 163; with_reducible refine (c3.out _).mono ?_; rintro e w' ⟨rfl, rfl⟩))
      go_ret2
      exact ⟨rfl, rfl⟩
/-- Mod, as the document has it -/
theorem NMod_any (a b : Int) (w : World) (ha : i64B a) (hb : 1 ≤ b) (hb2 : i64B b) : Calls Try.prog 156 #[.int .i64 a, .int .i64 b] w fun e w' => e = .returned (.int .i64 (a % b)) ∧ w = w' := by
  obtain ⟨h0, h1⟩ := ha
  obtain ⟨h2, h3⟩ := hb2
  have hbn : ¬ b = 0 := by omega
  have hm : a % b = if a.tmod b < 0 then a.tmod b + b else a.tmod b := by
    rw [Int.tmod_eq_emod]
    have h4 := Int.emod_nonneg a (show b ≠ 0 by omega)
    have h5 := Int.emod_lt_of_pos a (show 0 < b by omega)
    split <;> split <;> omega
  have h4 := Int.emod_nonneg a (show b ≠ 0 by omega)
  have h5 := Int.emod_lt_of_pos a (show 0 < b by omega)
  rw [hm] at h4 h5 ⊢
  clear hm
  obtain ⟨r, hr⟩ : ∃ r, a.tmod b = r := ⟨_, rfl⟩
  have Hr := hid hr
  by_cases hr0 : r < 0
  · rw [hr, if_pos hr0] at h4 h5 ⊢
    have hw := hid (w64 (r + b) (by omega))
    clear h4 h5
    go_enter Try.func156, Try.ntmps156
    go_wp2
    go_ret
    exact ⟨by rw [hw.out]; rfl, rfl⟩
  · rw [hr, if_neg hr0] at h4 h5 ⊢
    clear h4 h5
    go_enter Try.func156, Try.ntmps156
    go_wp2
    go_ret
    exact ⟨rfl, rfl⟩
def gcdL (l : List Int) : Nat := l.foldl (fun g n => Nat.gcd g n.natAbs) 0
theorem gcdL_snoc (l : List Int) (n : Int) : gcdL (l ++ [n]) = Nat.gcd (gcdL l) n.natAbs := by simp [gcdL]
theorem gcd_le {g a : Nat} (hg : g ≤ 9223372036854775808) (ha : a ≤ 9223372036854775808) : Nat.gcd g a ≤ 9223372036854775808 := by
  by_cases h : g = 0
  · rw [h, Nat.gcd_zero_left]; exact ha
  · exact Nat.le_trans (Nat.gcd_le_left a (by omega)) hg
theorem gcdL_le (l : List Int) (h : ∀ n ∈ l, i64B n) : ∀ k, k ≤ l.length → gcdL (l.take k) ≤ 9223372036854775808
  | 0, _ => by show 0 ≤ _; omega
  | k + 1, hk => by
    rw [take_snoc l k (by omega), gcdL_snoc]
    have := h _ (List.getElem_mem (show k < l.length by omega))
    exact gcd_le (gcdL_le l h k (by omega)) (by unfold i64B at this; omega)
theorem gcd_step (g a : Nat) : Nat.gcd a (g % a) = Nat.gcd g a := by
  rw [Nat.gcd_comm g a, Nat.gcd_rec a g, Nat.gcd_comm]
set_option maxHeartbeats 1600000 in
theorem NGcd_any (a : Option Addr) (cap : Nat) (l : List Int) (w : World) (hl : l.length ≤ 1000) (hs : Sl w a (ints l)) (hb : ∀ n ∈ l, i64B n) :
    Calls Try.prog 119 #[.slice a l.length cap] w fun e w' => e = .returned (.int .u64 (gcdL l : Nat)) ∧ Below w.heap.size w w' := by
  have Hs := hid hs
  have Hb := hid hb
  have HL := hid (gcdL_le l hb)
  have hlI : (l.length : Int) ≤ 1000 := by omega
  clear hs hb hl
  go_enter Try.func119, Try.ntmps119
  go_wp2
  go_loopw [3, 9] (fun g i wr => ∃ k : Nat, i = .int .i64 k ∧ g = .int .u64 (gcdL (l.take k) : Nat) ∧ k ≤ l.length ∧ Hid (Below w.heap.size w wr)) (fun _ i _ => l.length - (intOf i).toNat)
  case atStart => exact ⟨0, rfl, rfl, by omega, Below.refl _ _⟩
  case round =>
    obtain ⟨k, rfl, rfl, hk, HB⟩ := hrel
    by_cases hlt : k < l.length
    · obtain ⟨b, off, rfl, hbk, hc⟩ := Hs.out.atInt hlt
      have e1 := (HB.out.cell (p := ⟨b, off + k, none⟩) hbk).trans (hc k hlt)
      have hn := hid (Hb.out _ (List.getElem_mem hlt))
      have htk := hid (take_snoc l k hlt)
      have hgb := hid (HL.out k (by omega))
      obtain ⟨n, hnn⟩ : ∃ n, l[k] = n := ⟨_, rfl⟩
      rw [hnn] at e1 hn htk
      obtain ⟨g, hg⟩ : ∃ g, gcdL (l.take k) = g := ⟨_, rfl⟩
      have Hg := hid hg
      rw [hg] at hgb ⊢
      have cS := hid (NSize_any n wr hn.out)
      have hab : Hid (n.natAbs ≤ 9223372036854775808) := by have := hn.out; unfold i64B at this; show _ ≤ _; omega
      obtain ⟨m, hm⟩ : ∃ m, n.natAbs = m := ⟨_, rfl⟩
      have Hm := hid hm
      rw [hm] at cS hab
      clear hc hnn hg hm
      go_wp2_with fail
      refine cS.out.mono ?_
      rintro e w' ⟨rfl, rfl⟩
      go_wp2
      go_loopw [3, 6] (fun g' a' wq => ∃ p q : Nat, g' = .int .u64 p ∧ a' = .int .u64 q ∧ Nat.gcd p q = Nat.gcd g m ∧ p ≤ 9223372036854775808 ∧ q ≤ 9223372036854775808 ∧ Hid (Below w.heap.size w wq)) (fun _ a' _ => (intOf a').toNat)
      case atStart => exact ⟨g, m, rfl, rfl, rfl, hgb.out, hab.out, HB.out⟩
      case round =>
        obtain ⟨p, q, rfl, rfl, hpq, hp, hq, HB2⟩ := hrel
        by_cases h0 : q = 0
        · subst h0
          have hgm : p = Nat.gcd g m := by rw [← hpq, Nat.gcd_zero_right]
          have hz : ((0 : Nat) : Int) = 0 := rfl
          have Hgm := hid hgm
          clear hpq hgm
          go_wp2
          exact ⟨⟨k + 1, by go_num, by rw [htk.out, gcdL_snoc, Hg.out, Hm.out, Hgm.out], by omega, HB2.out⟩, by simp [intOf]; omega⟩
        · have hqn : ¬ (q : Int) = 0 := by omega
          have hqb : ((q : Int) == 0) = false := by simp; omega
          have Hpq := hid hpq
          have hlt2 : p % q < q := Nat.mod_lt _ (by omega)
          have Hlt := hid hlt2
          clear hpq hlt2
          go_wp2
          go_quiet (fail)
          go_wp2
          have ec : (p : Int) % (q : Int) = ((p % q : Nat) : Int) := (Int.natCast_emod p q).symm
          have hlt := Hlt.out
          refine ⟨⟨q, p % q, rfl, by rw [ec], by rw [gcd_step, Hpq.out], hq, by omega, below_drewN HB2.out _⟩, ?_⟩
          rw [ec]
          show ((p % q : Nat) : Int).toNat < ((q : Nat) : Int).toNat
          rw [Int.toNat_natCast, Int.toNat_natCast]
          exact hlt
    · have hke : l.take k = l := List.take_of_length_le (by omega)
      rw [hke]
      clear hke
      go_wp2
      go_ret
      exact ⟨rfl, HB.out⟩
end Go.Proofs.Ytndfckpcbiecnaa
namespace Go.Proofs.Ytndfckpcbiecnaa
open Go.RowKit
set_option linter.unusedVariables false

theorem Join_any (n s : Int) (w : World) (h0 : 0 ≤ n) (h1 : n < 146097) (h2 : 0 ≤ s) (h3 : s < 86400) : Calls Try.prog 180 #[.int .i64 n, .int .i64 s] w fun e w' => e = .returned (.tuple #[.int .i64 (n * 86400 + s), .bool true]) ∧ w = w' := by
  have hm := IntWalk.i64_in (n * 86400) (by omega)
  have ha := IntWalk.i64_in (n * 86400 + s) (by omega)
  go_enter Try.func180, Try.ntmps180
  go_wp2
  go_ret2
  exact ⟨rfl, rfl⟩
theorem SDay_any (n : Int) (w : World) (h0 : 0 ≤ n) (h1 : n < 146097) : Calls Try.prog 179 #[.int .i64 n] w fun e w' => e = .returned (spv (86400 * n) (86400 * n + 86399)) ∧ Below w.heap.size w w' := by
  have c1 := hid (fun W => Join_any n 0 W h0 h1 (by omega) (by omega))
  rw [show n * 86400 + 0 = 86400 * n by omega] at c1
  obtain ⟨d, hd⟩ : ∃ d, 86400 * n = d := ⟨_, rfl⟩
  rw [hd] at c1 ⊢
  have hd0 : 0 ≤ d := by omega
  have hd1 : d < 12622780800 := by omega
  clear hd h0 h1
  go_enter Try.func179, Try.ntmps179
  go_wp2_with fail
  refine (c1.out _).mono ?_
  rintro e w' ⟨rfl, rfl⟩
  go_wp2
  exact bodyPost_ret (results_cell_mid rfl _ _ w.heap.size 0 _ _ rfl (range_new w _ _) Try.underlying53 rfl infoSp) rfl ⟨ret_sp rfl (by omega), below_new (Below.refl _ _) (Nat.le_refl _)⟩
/-- the days of the window -/
theorem SDays_whole (w : World) : Calls Try.prog 158 #[spv 0 12622780799] w fun e w' => e = .returned (.tuple #[.int .i64 0, .int .i64 146096, .bool true]) ∧ Below w.heap.size w w' := by
  have c0 := hid (fun W => SHeld_any 0 12622780799 W)
  have c1 := hid (fun W => Split_yes 0 W (by omega) (by omega))
  have c2 := hid (fun W => Split_yes 12622780799 W (by omega) (by omega))
  rw [show heldF 0 12622780799 = 0 from rfl, show heldU 0 12622780799 = 12622780799 from rfl] at c0
  rw [show (0 : Int) / 86400 = 0 from rfl, show (0 : Int) % 86400 = 0 from rfl] at c1
  rw [show (12622780799 : Int) / 86400 = 146096 from rfl, show (12622780799 : Int) % 86400 = 86399 from rfl] at c2
  go_enter Try.func158, Try.ntmps158
  go_wp2_with fail
  refine (c0.out _).mono ?_
  rintro e w1 ⟨rfl, hB1⟩
  have k1 := (hB1.cell (p := ⟨w.heap.size, 0, none⟩) (by simp)).trans (show _ = some (.int .i64 0) by simp [go_sem])
  have k2 := (hB1.cell (p := ⟨w.heap.size, 1, none⟩) (by simp)).trans (show _ = some (.int .i64 12622780799) by simp [go_sem])
  have f1 := (hB1.frozen (p := ⟨w.heap.size, 0, none⟩) (by simp)).trans (show _ = false by simp [go_sem])
  have f2 := (hB1.frozen (p := ⟨w.heap.size, 1, none⟩) (by simp)).trans (show _ = false by simp [go_sem])
  have HB1 : Hid (Below w.heap.size w w1) := (below_new (Below.refl _ _) (Nat.le_refl _)).trans (hB1.mono (by simp))
  clear hB1
  go_wp2_with (first
    | (go_at_call 85; with_reducible refine (c1.out _).mono ?_; rintro e w' ⟨rfl, rfl⟩)
    | (go_at_call 85; with_reducible refine (c2.out _).mono ?_; rintro e w' ⟨rfl, rfl⟩))
  exact bodyPost_ret (v := .tuple #[.int .i64 0, .int .i64 146096, .bool true]) (by simp [results, Try.results158, go_sem]) rfl ⟨rfl, below_set (below_set HB1.out (Nat.le_refl _)) (Nat.le_refl _)⟩
theorem which_yes' {u t : Int} (hu : unB u = true) (ht : winB t = true) : whichB u t = true := by rw [whichB, hu, ht]; rfl
theorem Phase_any (u s a n : Int) (w : World) (hu : unB u = true) (ha : winB a = true) (hs : 1 ≤ s) (hs2 : i64B s) (h0 : 0 ≤ n) (h1 : n < 146097) (hz : 0 < sizeU u) :
    Calls Try.prog 170 #[.int .i64 u, .int .i64 s, .int .i64 a, .int .i64 n] w fun e w' => e = .returned (.int .i64 ((whichI u a - 86400 * n / sizeU u) % s)) ∧ Below w.heap.size w w' := by
  have c1 := hid (fun W => UWhich_any u a W)
  rw [(which_yes' hu ha)] at c1
  have c2 := hid (fun W => Join_any n 0 W h0 h1 (by omega) (by omega))
  rw [show n * 86400 + 0 = 86400 * n by omega] at c2
  have c3 := hid (fun W => Size_any u W)
  obtain ⟨d, hd⟩ : ∃ d, 86400 * n = d := ⟨_, rfl⟩
  rw [hd] at c2 ⊢
  have hb := whichI_bd u a
  obtain ⟨x, hx⟩ : ∃ x, whichI u a = x := ⟨_, rfl⟩
  rw [hx] at c1 hb ⊢
  have hd0 : 0 ≤ d := by omega
  have hd1 : d < 12622780800 := by omega
  have hz3 : sizeU u = 1 ∨ sizeU u = 60 ∨ sizeU u = 3600 := by
    unfold sizeU at hz ⊢
    split
    · exact .inl rfl
    · split
      · exact .inr (.inl rfl)
      · split
        · exact .inr (.inr rfl)
        · rename_i a1 a2 a3; rw [if_neg a1, if_neg a2, if_neg a3] at hz; omega
  clear hx hd hu ha h0 h1 hz
  rcases hz3 with hz | hz | hz
  all_goals
    rw [hz] at c3 ⊢
    clear hz
  · have c4 := hid (fun W => NMod_any (x - d) s W ⟨by omega, by omega⟩ hs hs2)
    rw [show d / 1 = d by omega]
    have hw := IntWalk.i64_in (x - d) (by omega)
    go_enter Try.func170, Try.ntmps170
    go_wp2_with fail
    refine (c1.out _).mono ?_
    rintro e w1 ⟨rfl, hB1⟩
    have HB1 := hid hB1
    clear hB1
    go_wp2_with fail
    refine (c2.out _).mono ?_
    rintro e w' ⟨rfl, rfl⟩
    go_wp2_with fail
    refine (c3.out _).mono ?_
    rintro e w2 ⟨rfl, hB2⟩
    have HB2 : Hid (Below w.heap.size w w2) := HB1.out.trans (hB2.mono HB1.out.size)
    clear hB2
    go_wp2_with fail
    with_reducible refine (c4.out _).mono ?_
    rintro e w' ⟨rfl, rfl⟩
    go_wp2
    go_ret
    exact ⟨rfl, HB2.out⟩
  · have c4 := hid (fun W => NMod_any (x - d / 60) s W ⟨by omega, by omega⟩ hs hs2)
    have hw := IntWalk.i64_in (x - d / 60) (by omega)
    go_enter Try.func170, Try.ntmps170
    go_wp2_with fail
    refine (c1.out _).mono ?_
    rintro e w1 ⟨rfl, hB1⟩
    have HB1 := hid hB1
    clear hB1
    go_wp2_with fail
    refine (c2.out _).mono ?_
    rintro e w' ⟨rfl, rfl⟩
    go_wp2_with fail
    refine (c3.out _).mono ?_
    rintro e w2 ⟨rfl, hB2⟩
    have HB2 : Hid (Below w.heap.size w w2) := HB1.out.trans (hB2.mono HB1.out.size)
    clear hB2
    go_wp2_with fail
    with_reducible refine (c4.out _).mono ?_
    rintro e w' ⟨rfl, rfl⟩
    go_wp2
    go_ret
    exact ⟨rfl, HB2.out⟩
  · have c4 := hid (fun W => NMod_any (x - d / 3600) s W ⟨by omega, by omega⟩ hs hs2)
    have hw := IntWalk.i64_in (x - d / 3600) (by omega)
    go_enter Try.func170, Try.ntmps170
    go_wp2_with fail
    refine (c1.out _).mono ?_
    rintro e w1 ⟨rfl, hB1⟩
    have HB1 := hid hB1
    clear hB1
    go_wp2_with fail
    refine (c2.out _).mono ?_
    rintro e w' ⟨rfl, rfl⟩
    go_wp2_with fail
    refine (c3.out _).mono ?_
    rintro e w2 ⟨rfl, hB2⟩
    have HB2 : Hid (Below w.heap.size w w2) := HB1.out.trans (hB2.mono HB1.out.size)
    clear hB2
    go_wp2_with fail
    with_reducible refine (c4.out _).mono ?_
    rintro e w' ⟨rfl, rfl⟩
    go_wp2
    go_ret
    exact ⟨rfl, HB2.out⟩
/-- Meet's blocks: the pieces, its own, the result's -/
abbrev MeS (w : World) (b b3 : Nat) (d f u : Int) (W : World) : Prop :=
  (W.cell? ⟨b3, 0, none⟩ = some (.int .i64 f) ∧ W.cell? ⟨b3, 1, none⟩ = some (.int .i64 u) ∧ W.frozen? ⟨b3, 0, none⟩ = false ∧ W.frozen? ⟨b3, 1, none⟩ = false) ∧
  (W.cell? ⟨b, 0, none⟩ = some (.int .i64 0) ∧ W.cell? ⟨b, 1, none⟩ = some (.int .i64 12622780799) ∧ W.cell? ⟨b, 2, none⟩ = some (.int .i64 d) ∧ W.cell? ⟨b, 3, none⟩ = some (.int .i64 (d + 86399))) ∧
  (W.cell? ⟨w.heap.size, 0, none⟩ = some (.int .i64 0) ∧ W.cell? ⟨w.heap.size, 1, none⟩ = some (.int .i64 0) ∧ W.frozen? ⟨w.heap.size, 0, none⟩ = false ∧ W.frozen? ⟨w.heap.size, 1, none⟩ = false) ∧
  Below w.heap.size w W ∧ (b < w.heap.size ∧ w.heap.size < b3 ∧ b3 < W.heap.size)
theorem frozen_set {W : World} {p q : Addr} {v : Value} : (W.setCell p v).frozen? q = W.frozen? q := by
  have := World.frozen?_setCells p.block [v] p.off W
  simp [go_sem]
theorem MeS.step {w W : World} {b b3 : Nat} {d f u : Int} (h : MeS w b b3 d f u W) (o : Obj) (f' u' : Int) : MeS w b b3 d f' u' (((W.alloc o).setCell ⟨b3, 0, none⟩ (.int .i64 f')).setCell ⟨b3, 1, none⟩ (.int .i64 u')) := by
  obtain ⟨⟨a1, a2, a3, a4⟩, ⟨b0, b1, b2, b4⟩, ⟨c1, c2, c3, c4⟩, hB, l1, l2, l3⟩ := h
  have hn := below_new (o := o) (Below.refl W.heap.size W) (Nat.le_refl _)
  have e1 := (hn.cell (p := ⟨b3, 0, none⟩) l3).trans a1
  have e2 := (hn.cell (p := ⟨b3, 1, none⟩) l3).trans a2
  have g1 := (hn.frozen (p := ⟨b3, 0, none⟩) l3).trans a3
  have g2 := (hn.frozen (p := ⟨b3, 1, none⟩) l3).trans a4
  have hb : Below b3 W (((W.alloc o).setCell ⟨b3, 0, none⟩ (.int .i64 f')).setCell ⟨b3, 1, none⟩ (.int .i64 u')) := below_set (below_set (below_new (Below.refl _ _) (Nat.le_of_lt l3)) (Nat.le_refl _)) (Nat.le_refl _)
  have r := range_two (x := .int .i64 f') (y := .int .i64 u') e1 e2
  refine ⟨⟨r 0 _ rfl, r 1 _ rfl, by rw [frozen_set, frozen_set]; exact g1, by rw [frozen_set, frozen_set]; exact g2⟩,
    ⟨(hb.cell (p := ⟨b, 0, none⟩) (by show b < b3; omega)).trans b0, (hb.cell (p := ⟨b, 1, none⟩) (by show b < b3; omega)).trans b1, (hb.cell (p := ⟨b, 2, none⟩) (by show b < b3; omega)).trans b2, (hb.cell (p := ⟨b, 3, none⟩) (by show b < b3; omega)).trans b4⟩,
    ⟨(hb.cell (p := ⟨w.heap.size, 0, none⟩) l2).trans c1, (hb.cell (p := ⟨w.heap.size, 1, none⟩) l2).trans c2, (hb.frozen (p := ⟨w.heap.size, 0, none⟩) l2).trans c3, (hb.frozen (p := ⟨w.heap.size, 1, none⟩) l2).trans c4⟩,
    hB.trans (hb.mono (Nat.le_of_lt l2)), l1, l2, ?_⟩
  rw [World.size_setCell, World.size_setCell, World.size_alloc]; omega
set_option maxHeartbeats 1600000 in
theorem SMeet_at (b : Nat) (d : Int) (w : World) (hd : d = 0 ∨ d = 12622694400) (hb : b < w.heap.size)
    (k0 : w.cell? ⟨b, 0, none⟩ = some (.int .i64 0)) (k1 : w.cell? ⟨b, 1, none⟩ = some (.int .i64 12622780799)) (k2 : w.cell? ⟨b, 2, none⟩ = some (.int .i64 d)) (k3 : w.cell? ⟨b, 3, none⟩ = some (.int .i64 (d + 86399))) :
    Calls Try.prog 178 #[.slice (some ⟨b, 0, none⟩) 2 2] w fun e w' => e = .returned (spv d (d + 86399)) ∧ Below w.heap.size w w' := by
  have c0 := hid (fun W => Whole_any W)
  have c1 := hid (fun W => SHeld_any d (d + 86399) W)
  have hh : heldF d (d + 86399) = d ∧ heldU d (d + 86399) = d + 86399 := by
    rcases hd with rfl | rfl <;> exact ⟨rfl, rfl⟩
  rw [hh.1, hh.2] at c1
  have H0 := hid k0
  have H1 := hid k1
  have H2 := hid k2
  have H3 := hid k3
  clear hh k0 k1 k2 k3
  go_enter Try.func178, Try.ntmps178
  go_wp2_with fail
  refine (c0.out _).mono ?_
  rintro e w1 ⟨rfl, hB1⟩
  have z1 := (hB1.cell (p := ⟨w.heap.size, 0, none⟩) (by simp)).trans (show _ = some (.int .i64 0) by simp [go_sem])
  have z2 := (hB1.cell (p := ⟨w.heap.size, 1, none⟩) (by simp)).trans (show _ = some (.int .i64 0) by simp [go_sem])
  have f1 := (hB1.frozen (p := ⟨w.heap.size, 0, none⟩) (by simp)).trans (show _ = false by simp [go_sem])
  have f2 := (hB1.frozen (p := ⟨w.heap.size, 1, none⟩) (by simp)).trans (show _ = false by simp [go_sem])
  have hs1 : w.heap.size < w1.heap.size := by have := hB1.size; rw [World.size_alloc] at this; exact this
  have hB1' : Below w.heap.size w w1 := (below_new (Below.refl _ _) (Nat.le_refl _)).trans (hB1.mono (by simp))
  have q0 := (hB1'.cell (p := ⟨b, 0, none⟩) hb).trans H0.out
  have q1 := (hB1'.cell (p := ⟨b, 1, none⟩) hb).trans H1.out
  have q2 := (hB1'.cell (p := ⟨b, 2, none⟩) hb).trans H2.out
  have q3 := (hB1'.cell (p := ⟨b, 3, none⟩) hb).trans H3.out
  have hne1 : b ≠ w1.heap.size := by omega
  have hne2 : w.heap.size ≠ w1.heap.size := by omega
  have HB1 := hid hB1'
  clear hB1 hB1'
  have hM : Hid (MeS w b w1.heap.size d 0 12622780799 (w1.alloc (.cells #[.int .i64 0, .int .i64 12622780799] 53))) := by
    have hn := below_new (o := .cells #[.int .i64 0, .int .i64 12622780799] 53) (Below.refl w1.heap.size w1) (Nat.le_refl _)
    have hb1 : b < w1.heap.size := by omega
    exact ⟨⟨by simp [go_sem], by simp [go_sem], by simp [go_sem], by simp [go_sem]⟩, ⟨(hn.cell (p := ⟨b, 0, none⟩) hb1).trans q0, (hn.cell (p := ⟨b, 1, none⟩) hb1).trans q1, (hn.cell (p := ⟨b, 2, none⟩) hb1).trans q2, (hn.cell (p := ⟨b, 3, none⟩) hb1).trans q3⟩,
      ⟨(hn.cell (p := ⟨w.heap.size, 0, none⟩) hs1).trans z1, (hn.cell (p := ⟨w.heap.size, 1, none⟩) hs1).trans z2, (hn.frozen (p := ⟨w.heap.size, 0, none⟩) hs1).trans f1, (hn.frozen (p := ⟨w.heap.size, 1, none⟩) hs1).trans f2⟩,
      HB1.out.trans (hn.mono (Nat.le_of_lt hs1)), hb, hs1, by simp⟩
  clear z1 z2 f1 f2 q0 q1 q2 q3 hne1 hne2 HB1 H0 H1 H2 H3
  have HE : Hid (12622780799 = (12622780799 : Int)) := rfl
  go_wp2
  go_loopw [9] (fun i wr => ∃ k : Nat, i = .int .i64 k ∧ k ≤ 2 ∧ Hid (MeS w b w1.heap.size d (if k < 2 then 0 else d) (if k < 2 then 12622780799 else d + 86399) wr)) (fun i _ => 2 - (intOf i).toNat)
  case atStart => exact ⟨0, rfl, by omega, hM.out⟩
  case round =>
    obtain ⟨k, rfl, hk, HM⟩ := hrel
    have hk3 : k = 0 ∨ k = 1 ∨ k = 2 := by omega
    rcases hk3 with rfl | rfl | rfl
    · have HM0 : Hid (MeS w b w1.heap.size d 0 12622780799 wr) := HM
      obtain ⟨⟨a1, a2, a3, a4⟩, ⟨b0, b1, b2, b4⟩, -, -, -⟩ := HM0.out
      clear b2 b4
      have hn := below_new (o := .cells #[.int .i64 0, .int .i64 12622780799] 53) (Below.refl wr.heap.size wr) (Nat.le_refl _)
      have l3 : w1.heap.size < wr.heap.size := HM0.out.2.2.2.2.2.2
      have e1 := (hn.cell (p := ⟨w1.heap.size, 0, none⟩) l3).trans a1
      have e2 := (hn.cell (p := ⟨w1.heap.size, 1, none⟩) l3).trans a2
      have g1 := (hn.frozen (p := ⟨w1.heap.size, 0, none⟩) l3).trans a3
      have g2 := (hn.frozen (p := ⟨w1.heap.size, 1, none⟩) l3).trans a4
      clear hn l3 a1 a2 a3 a4
      go_wp2
      exact ⟨⟨1, by go_num, by omega, HM0.out.step _ 0 12622780799⟩, by simp [intOf]⟩
    · have HM0 : Hid (MeS w b w1.heap.size d 0 12622780799 wr) := HM
      obtain ⟨⟨a1, a2, a3, a4⟩, ⟨b0, b1, b2, b4⟩, -, -, -⟩ := HM0.out
      clear b0 b1
      rcases hd with rfl | rfl
      · rw [show (0 : Int) + 86399 = 86399 from rfl] at b4
        have hn := below_new (o := .cells #[.int .i64 0, .int .i64 86399] 53) (Below.refl wr.heap.size wr) (Nat.le_refl _)
        have l3 : w1.heap.size < wr.heap.size := HM0.out.2.2.2.2.2.2
        have e1 := (hn.cell (p := ⟨w1.heap.size, 0, none⟩) l3).trans a1
        have e2 := (hn.cell (p := ⟨w1.heap.size, 1, none⟩) l3).trans a2
        have g1 := (hn.frozen (p := ⟨w1.heap.size, 0, none⟩) l3).trans a3
        have g2 := (hn.frozen (p := ⟨w1.heap.size, 1, none⟩) l3).trans a4
        clear hn l3 a1 a2 a3 a4
        go_wp2
        exact ⟨⟨2, by go_num, by omega, HM0.out.step _ 0 86399⟩, by simp [intOf]⟩
      · rw [show (12622694400 : Int) + 86399 = 12622780799 from rfl] at b4
        have hn := below_new (o := .cells #[.int .i64 12622694400, .int .i64 12622780799] 53) (Below.refl wr.heap.size wr) (Nat.le_refl _)
        have l3 : w1.heap.size < wr.heap.size := HM0.out.2.2.2.2.2.2
        have e1 := (hn.cell (p := ⟨w1.heap.size, 0, none⟩) l3).trans a1
        have e2 := (hn.cell (p := ⟨w1.heap.size, 1, none⟩) l3).trans a2
        have g1 := (hn.frozen (p := ⟨w1.heap.size, 0, none⟩) l3).trans a3
        have g2 := (hn.frozen (p := ⟨w1.heap.size, 1, none⟩) l3).trans a4
        clear hn l3 a1 a2 a3 a4
        go_wp2
        exact ⟨⟨2, by go_num, by omega, HM0.out.step _ 12622694400 12622780799⟩, by simp [intOf]⟩
    · have HM0 : Hid (MeS w b w1.heap.size d d (d + 86399) wr) := HM
      obtain ⟨⟨a1, a2, -, -⟩, -, ⟨z1, z2, f1, f2⟩, hB, -, -, -⟩ := HM0.out
      have HB := hid hB
      clear hB
      go_wp2_with fail
      refine (c1.out _).mono ?_
      rintro e w3 ⟨rfl, hB3⟩
      have l1 : w.heap.size < wr.heap.size := by have := HM0.out.2.2.2.2; omega
      have z1' := (hB3.cell (p := ⟨w.heap.size, 0, none⟩) l1).trans z1
      have z2' := (hB3.cell (p := ⟨w.heap.size, 1, none⟩) l1).trans z2
      have f1' := (hB3.frozen (p := ⟨w.heap.size, 0, none⟩) l1).trans f1
      have f2' := (hB3.frozen (p := ⟨w.heap.size, 1, none⟩) l1).trans f2
      have HB3 : Hid (Below w.heap.size w w3) := HB.out.trans (hB3.mono (Nat.le_of_lt l1))
      clear hB3 a1 a2 z1 z2 f1 f2
      go_wp2
      exact bodyPost_ret (results_cell_mid rfl _ _ w.heap.size 0 _ _ rfl (range_two z1' z2') Try.underlying53 rfl infoSp) rfl ⟨rfl, below_set (below_set HB3.out (Nat.le_refl _)) (Nat.le_refl _)⟩
end Go.Proofs.Ytndfckpcbiecnaa
namespace Go.Proofs.Ytndfckpcbiecnaa
open Go.RowKit
set_option linter.unusedVariables false

abbrev CtS (w : World) (W : World) : Prop := Below w.heap.size w W ∧ w.heap.size < W.heap.size
theorem CtS.keep {w W W' : World} (h : CtS w W) (hb : Below W.heap.size W W') : CtS w W' := ⟨h.1.trans (hb.mono (Nat.le_of_lt h.2)), Nat.lt_of_lt_of_le h.2 hb.size⟩
set_option maxHeartbeats 3200000 in
theorem SCut_at (n : Int) (w : World) (hn : n = 0 ∨ n = 146096) : Calls Try.prog 169 #[spv 0 12622780799, .int .i64 n] w fun e w' => e = .returned (.tuple #[.int .i64 0, .int .i64 86399, .bool true]) ∧ Below w.heap.size w w' := by
  have cD := hid (fun W => SDay_any n W (by omega) (by omega))
  have hd : 86400 * n = 0 ∨ 86400 * n = 12622694400 := by omega
  have cM := hid (fun b W hb k0 k1 k2 k3 => SMeet_at b (86400 * n) W hd hb k0 k1 k2 k3)
  have c1 := hid (fun W => Split_yes (86400 * n) W (by omega) (by omega))
  have c2 := hid (fun W => Split_yes (86400 * n + 86399) W (by omega) (by omega))
  rw [show 86400 * n / 86400 = n by omega, show 86400 * n % 86400 = 0 by omega] at c1
  rw [show (86400 * n + 86399) / 86400 = n by omega, show (86400 * n + 86399) % 86400 = 86399 by omega] at c2
  obtain ⟨d, hdd⟩ : ∃ d, 86400 * n = d := ⟨_, rfl⟩
  rw [hdd] at cD cM c1 c2
  clear hd hdd hn
  have HS0 : Hid (CtS w (w.alloc (.cells #[.int .i64 0, .int .i64 12622780799] 53)).drew) := ⟨(below_new (Below.refl _ _) (Nat.le_refl _)).drew, by show _ < (World.alloc _ _).heap.size; simp⟩
  go_enter Try.func169, Try.ntmps169
  go_wp2_with fail
  refine wp_region_held_drew (S := fun w' => CtS w w') (by kernel_rfl) HS0.out (fun hHeld => ?_)
  refine wpAnyH_take (i := 1) (v := ?_) rfl (by kernel_rfl) (by kernel_rfl) (by kernel_rfl) (fun _ _ _ h => h) (Or.inl ⟨by rfl, ?_⟩) (by assumption) ?_
  rotate_left
  · intro w hSw; go_simp; (try with_reducible rfl)
  (try simp only [Act.put, List.getElem_toArray, List.getElem_cons_succ, List.getElem_cons_zero, List.setIfInBounds_toArray, List.set_cons_zero, List.set_cons_succ])
  refine wpAnyH_ready (rs := [0, 2]) (by kernel_rfl) (by simp) ?_
  refine AllReadyH.cons rfl (fun K hK => ?_) (AllReadyH.cons rfl (fun K hK => ?_) AllReadyH.nil)
  · go_simp
    (try go_wp2_with fail)
    refine hK.out _ _ (by assumption) (fun hHeld => ?_)
    clear hK K
    (try simp only [Act.put, List.getElem_toArray, List.getElem_cons_succ, List.getElem_cons_zero, List.setIfInBounds_toArray, List.set_cons_zero, List.set_cons_succ])
    refine wpAnyH_ready (rs := [2]) (by kernel_rfl) (by simp) ?_
    refine AllReadyH.cons rfl (fun K hK => ?_) AllReadyH.nil
    go_simp
    refine (cD.out _).mono ?_
    rintro e w1 ⟨rfl, hB1⟩
    have k1 := (hB1.cell (p := ⟨w.heap.size, 0, none⟩) (by simp [World.size_drew])).trans (show _ = some (.int .i64 0) by simp [go_sem])
    have k2 := (hB1.cell (p := ⟨w.heap.size, 1, none⟩) (by simp [World.size_drew])).trans (show _ = some (.int .i64 12622780799) by simp [go_sem])
    have f1 := (hB1.frozen (p := ⟨w.heap.size, 0, none⟩) (by simp [World.size_drew])).trans (show _ = false by simp [go_sem])
    have f2 := (hB1.frozen (p := ⟨w.heap.size, 1, none⟩) (by simp [World.size_drew])).trans (show _ = false by simp [go_sem])
    have hS1 := CtS.keep hHeld hB1
    (try go_wp2_with fail)
    refine hK.out _ _ hS1 (fun hHeld => ?_)
    clear hK K
    (try simp only [Act.put, List.getElem_toArray, List.getElem_cons_succ, List.getElem_cons_zero, List.setIfInBounds_toArray, List.set_cons_zero, List.set_cons_succ])
    have hn := below_new (o := .cells #[.int .i64 0, .int .i64 12622780799, .int .i64 d, .int .i64 (d + 86399)] 53) (Below.refl w1.heap.size w1) (Nat.le_refl _)
    have hl1 : w.heap.size < w1.heap.size := hS1.2
    refine wpAnyH_ready (rs := [3]) (by kernel_rfl) (by simp) ?_
    refine AllReadyH.cons rfl (fun K hK => ?_) AllReadyH.nil
    go_simp
    (try go_wp2_with fail)
    refine hK.out _ _ (CtS.keep hS1 hn) (fun hHeld => ?_)
    clear hK K
    (try simp only [Act.put, List.getElem_toArray, List.getElem_cons_succ, List.getElem_cons_zero, List.setIfInBounds_toArray, List.set_cons_zero, List.set_cons_succ])
    refine wpAnyH_ready (rs := [4]) (by kernel_rfl) (by simp) ?_
    refine AllReadyH.cons rfl (fun K hK => ?_) AllReadyH.nil
    go_simp
    refine (cM.out w1.heap.size _ (by simp) (by simp [go_sem]) (by simp [go_sem]) (by simp [go_sem]) (by simp [go_sem])).mono ?_
    rintro e w2 ⟨rfl, hB2⟩
    have hS2 := CtS.keep hHeld hB2
    have m1 := (hB2.cell (p := ⟨w.heap.size, 0, none⟩) (by simp only [World.size_alloc]; omega)).trans ((hn.cell (p := ⟨w.heap.size, 0, none⟩) hl1).trans k1)
    have m2 := (hB2.cell (p := ⟨w.heap.size, 1, none⟩) (by simp only [World.size_alloc]; omega)).trans ((hn.cell (p := ⟨w.heap.size, 1, none⟩) hl1).trans k2)
    have n1 := (hB2.frozen (p := ⟨w.heap.size, 0, none⟩) (by simp only [World.size_alloc]; omega)).trans ((hn.frozen (p := ⟨w.heap.size, 0, none⟩) hl1).trans f1)
    have n2 := (hB2.frozen (p := ⟨w.heap.size, 1, none⟩) (by simp only [World.size_alloc]; omega)).trans ((hn.frozen (p := ⟨w.heap.size, 1, none⟩) hl1).trans f2)
    clear hn k1 k2 f1 f2
    (try go_wp2_with fail)
    refine hK.out _ _ (by assumption) (fun hHeld => ?_)
    clear hK K
    (try simp only [Act.put, List.getElem_toArray, List.getElem_cons_succ, List.getElem_cons_zero, List.setIfInBounds_toArray, List.set_cons_zero, List.set_cons_succ])
    refine wpAnyH_ready (rs := [5]) (by kernel_rfl) (by simp) ?_
    refine AllReadyH.cons rfl (fun K hK => ?_) AllReadyH.nil
    go_simp
    (try go_wp2_with fail)
    refine hK.out _ _ ⟨below_set (below_set hS2.1 (Nat.le_refl _)) (Nat.le_refl _), by rw [World.size_setCell, World.size_setCell]; exact hS2.2⟩ (fun hHeld => ?_)
    clear hK K
    (try simp only [Act.put, List.getElem_toArray, List.getElem_cons_succ, List.getElem_cons_zero, List.setIfInBounds_toArray, List.set_cons_zero, List.set_cons_succ])
    refine wpAnyH_done (by kernel_rfl) ?_ _
    have HB2 := hid hS2.1
    go_wp2_with (first | (go_at_call 85; with_reducible refine (c1.out _).mono ?_; rintro e w' ⟨rfl, rfl⟩) | (go_at_call 85; with_reducible refine (c2.out _).mono ?_; rintro e w' ⟨rfl, rfl⟩))
    exact bodyPost_ret (v := .tuple #[.int .i64 0, .int .i64 86399, .bool true]) (by simp [results, Try.results169, go_sem]) rfl ⟨rfl, below_set (below_set HB2.out (Nat.le_refl _)) (Nat.le_refl _)⟩
  · go_simp
    refine (cD.out _).mono ?_
    rintro e w1 ⟨rfl, hB1⟩
    have k1 := (hB1.cell (p := ⟨w.heap.size, 0, none⟩) (by simp [World.size_drew])).trans (show _ = some (.int .i64 0) by simp [go_sem])
    have k2 := (hB1.cell (p := ⟨w.heap.size, 1, none⟩) (by simp [World.size_drew])).trans (show _ = some (.int .i64 12622780799) by simp [go_sem])
    have f1 := (hB1.frozen (p := ⟨w.heap.size, 0, none⟩) (by simp [World.size_drew])).trans (show _ = false by simp [go_sem])
    have f2 := (hB1.frozen (p := ⟨w.heap.size, 1, none⟩) (by simp [World.size_drew])).trans (show _ = false by simp [go_sem])
    have hS1 := CtS.keep hHeld hB1
    (try go_wp2_with fail)
    refine hK.out _ _ hS1 (fun hHeld => ?_)
    clear hK K
    (try simp only [Act.put, List.getElem_toArray, List.getElem_cons_succ, List.getElem_cons_zero, List.setIfInBounds_toArray, List.set_cons_zero, List.set_cons_succ])
    refine wpAnyH_ready (rs := [0]) (by kernel_rfl) (by simp) ?_
    refine AllReadyH.cons rfl (fun K hK => ?_) AllReadyH.nil
    go_simp
    (try go_wp2_with fail)
    refine hK.out _ _ (by assumption) (fun hHeld => ?_)
    clear hK K
    (try simp only [Act.put, List.getElem_toArray, List.getElem_cons_succ, List.getElem_cons_zero, List.setIfInBounds_toArray, List.set_cons_zero, List.set_cons_succ])
    have hn := below_new (o := .cells #[.int .i64 0, .int .i64 12622780799, .int .i64 d, .int .i64 (d + 86399)] 53) (Below.refl w1.heap.size w1) (Nat.le_refl _)
    have hl1 : w.heap.size < w1.heap.size := hS1.2
    refine wpAnyH_ready (rs := [3]) (by kernel_rfl) (by simp) ?_
    refine AllReadyH.cons rfl (fun K hK => ?_) AllReadyH.nil
    go_simp
    (try go_wp2_with fail)
    refine hK.out _ _ (CtS.keep hS1 hn) (fun hHeld => ?_)
    clear hK K
    (try simp only [Act.put, List.getElem_toArray, List.getElem_cons_succ, List.getElem_cons_zero, List.setIfInBounds_toArray, List.set_cons_zero, List.set_cons_succ])
    refine wpAnyH_ready (rs := [4]) (by kernel_rfl) (by simp) ?_
    refine AllReadyH.cons rfl (fun K hK => ?_) AllReadyH.nil
    go_simp
    refine (cM.out w1.heap.size _ (by simp) (by simp [go_sem]) (by simp [go_sem]) (by simp [go_sem]) (by simp [go_sem])).mono ?_
    rintro e w2 ⟨rfl, hB2⟩
    have hS2 := CtS.keep hHeld hB2
    have m1 := (hB2.cell (p := ⟨w.heap.size, 0, none⟩) (by simp only [World.size_alloc]; omega)).trans ((hn.cell (p := ⟨w.heap.size, 0, none⟩) hl1).trans k1)
    have m2 := (hB2.cell (p := ⟨w.heap.size, 1, none⟩) (by simp only [World.size_alloc]; omega)).trans ((hn.cell (p := ⟨w.heap.size, 1, none⟩) hl1).trans k2)
    have n1 := (hB2.frozen (p := ⟨w.heap.size, 0, none⟩) (by simp only [World.size_alloc]; omega)).trans ((hn.frozen (p := ⟨w.heap.size, 0, none⟩) hl1).trans f1)
    have n2 := (hB2.frozen (p := ⟨w.heap.size, 1, none⟩) (by simp only [World.size_alloc]; omega)).trans ((hn.frozen (p := ⟨w.heap.size, 1, none⟩) hl1).trans f2)
    clear hn k1 k2 f1 f2
    (try go_wp2_with fail)
    refine hK.out _ _ (by assumption) (fun hHeld => ?_)
    clear hK K
    (try simp only [Act.put, List.getElem_toArray, List.getElem_cons_succ, List.getElem_cons_zero, List.setIfInBounds_toArray, List.set_cons_zero, List.set_cons_succ])
    refine wpAnyH_ready (rs := [5]) (by kernel_rfl) (by simp) ?_
    refine AllReadyH.cons rfl (fun K hK => ?_) AllReadyH.nil
    go_simp
    (try go_wp2_with fail)
    refine hK.out _ _ ⟨below_set (below_set hS2.1 (Nat.le_refl _)) (Nat.le_refl _), by rw [World.size_setCell, World.size_setCell]; exact hS2.2⟩ (fun hHeld => ?_)
    clear hK K
    (try simp only [Act.put, List.getElem_toArray, List.getElem_cons_succ, List.getElem_cons_zero, List.setIfInBounds_toArray, List.set_cons_zero, List.set_cons_succ])
    refine wpAnyH_done (by kernel_rfl) ?_ _
    have HB2 := hid hS2.1
    go_wp2_with (first | (go_at_call 85; with_reducible refine (c1.out _).mono ?_; rintro e w' ⟨rfl, rfl⟩) | (go_at_call 85; with_reducible refine (c2.out _).mono ?_; rintro e w' ⟨rfl, rfl⟩))
    exact bodyPost_ret (v := .tuple #[.int .i64 0, .int .i64 86399, .bool true]) (by simp [results, Try.results169, go_sem]) rfl ⟨rfl, below_set (below_set HB2.out (Nat.le_refl _)) (Nat.le_refl _)⟩
end Go.Proofs.Ytndfckpcbiecnaa
namespace Go.Proofs.Ytndfckpcbiecnaa
open Go.RowKit
set_option linter.unusedVariables false

attribute [local go_sem ↓] loadAt_cl
/-- a state -/
abbrev stv (b : Bool) (f u p : Int) : Value := .agg #[.bool b, .int .i64 f, .int .i64 u, .int .i64 p]
def phaseC (c : Cl) (n : Int) : Int := if 1 < c.step ∧ 0 < sizeU c.unit then (whichI c.unit c.anchor - 86400 * n / sizeU c.unit) % c.step else 0
def stateV (c : Cl) (n : Int) : Value := if dayC c n then stv true 0 86399 (phaseC c n) else stv false 0 0 0
theorem infoSt : (Try.prog.info? 98).map (·.size) = some 4 := by kernel_rfl
/-- the boxes of the function -/
structure LpS (W : World) (b7 b5 b6 b3 b4 b1 : Nat) (fv : Value) (c : Cl) (B : Nat) : Prop where
  c7 : W.cell? ⟨b7, 0, none⟩ = some (.bool true)
  c5 : W.cell? ⟨b5, 0, none⟩ = some (.int .i64 0)
  c6 : W.cell? ⟨b6, 0, none⟩ = some (.int .i64 146096)
  c3 : W.cell? ⟨b3, 0, none⟩ = some fv
  c4 : W.cell? ⟨b4, 0, none⟩ = some (.int .i64 0) ∧ W.cell? ⟨b4, 1, none⟩ = some (.int .i64 12622780799)
  c1 : ClB W b1 c
  l : b7 < B ∧ b5 < B ∧ b6 < B ∧ b3 < B ∧ b4 < B ∧ b1 < B
theorem LpS.below {W W' : World} {b7 b5 b6 b3 b4 b1 B : Nat} {fv : Value} {c : Cl} (h : LpS W b7 b5 b6 b3 b4 b1 fv c B) (hb : Below B W W') : LpS W' b7 b5 b6 b3 b4 b1 fv c B := by
  obtain ⟨l7, l5, l6, l3, l4, l1⟩ := h.l
  exact ⟨(hb.cell (p := ⟨b7, 0, none⟩) l7).trans h.c7, (hb.cell (p := ⟨b5, 0, none⟩) l5).trans h.c5, (hb.cell (p := ⟨b6, 0, none⟩) l6).trans h.c6, (hb.cell (p := ⟨b3, 0, none⟩) l3).trans h.c3,
    ⟨(hb.cell (p := ⟨b4, 0, none⟩) l4).trans h.c4.1, (hb.cell (p := ⟨b4, 1, none⟩) l4).trans h.c4.2⟩, h.c1.below hb l1, h.l⟩
/-- four cells of a block -/
abbrev Four (W : World) (b : Nat) (v0 v1 v2 v3 : Value) : Prop :=
  (W.cell? ⟨b, 0, none⟩ = some v0 ∧ W.cell? ⟨b, 1, none⟩ = some v1 ∧ W.cell? ⟨b, 2, none⟩ = some v2 ∧ W.cell? ⟨b, 3, none⟩ = some v3) ∧ (W.frozen? ⟨b, 0, none⟩ = false ∧ W.frozen? ⟨b, 1, none⟩ = false ∧ W.frozen? ⟨b, 2, none⟩ = false ∧ W.frozen? ⟨b, 3, none⟩ = false)
theorem Four.below {W W' : World} {b B : Nat} {v0 v1 v2 v3 : Value} (h : Four W b v0 v1 v2 v3) (hb : Below B W W') (hB : b < B) : Four W' b v0 v1 v2 v3 := by
  obtain ⟨⟨a0, a1, a2, a3⟩, f0, f1, f2, f3⟩ := h
  exact ⟨⟨(hb.cell (p := ⟨b, 0, none⟩) hB).trans a0, (hb.cell (p := ⟨b, 1, none⟩) hB).trans a1, (hb.cell (p := ⟨b, 2, none⟩) hB).trans a2, (hb.cell (p := ⟨b, 3, none⟩) hB).trans a3⟩,
    (hb.frozen (p := ⟨b, 0, none⟩) hB).trans f0, (hb.frozen (p := ⟨b, 1, none⟩) hB).trans f1, (hb.frozen (p := ⟨b, 2, none⟩) hB).trans f2, (hb.frozen (p := ⟨b, 3, none⟩) hB).trans f3⟩
theorem four_new (w : World) (v0 v1 v2 v3 : Value) (t : TypeId) : Four (w.alloc (.cells #[v0, v1, v2, v3] t)) w.heap.size v0 v1 v2 v3 := by
  refine ⟨⟨?_, ?_, ?_, ?_⟩, ?_, ?_, ?_, ?_⟩ <;> simp [go_sem]
theorem Four.set1 {W : World} {b : Nat} {v0 v1 v2 v3 : Value} (h : Four W b v0 v1 v2 v3) (x y : Value) : Four ((W.setCell ⟨b, 1, none⟩ x).setCell ⟨b, 2, none⟩ y) b v0 x y v3 := by
  obtain ⟨⟨a0, a1, a2, a3⟩, f0, f1, f2, f3⟩ := h
  have ne : ∀ i j : Nat, i ≠ j → (⟨b, i, none⟩ : Addr) ≠ ⟨b, j, none⟩ := fun i j hij e => by injection e with _ e _; exact hij e
  refine ⟨⟨?_, ?_, ?_, ?_⟩, by rw [frozen_set, frozen_set]; exact f0, by rw [frozen_set, frozen_set]; exact f1, by rw [frozen_set, frozen_set]; exact f2, by rw [frozen_set, frozen_set]; exact f3⟩
  · rw [World.cell?_setCell_other _ _ _ _ (ne 2 0 (by omega)), World.cell?_setCell_other _ _ _ _ (ne 1 0 (by omega))]; exact a0
  · rw [World.cell?_setCell_other _ _ _ _ (ne 2 1 (by omega))]; exact World.cell?_setCell_same _ _ _ a1
  · exact World.cell?_setCell_same _ _ _ (by rw [World.cell?_setCell_other _ _ _ _ (ne 1 2 (by omega))]; exact a2)
  · rw [World.cell?_setCell_other _ _ _ _ (ne 2 3 (by omega)), World.cell?_setCell_other _ _ _ _ (ne 1 3 (by omega))]; exact a3
theorem Four.put {W : World} {b : Nat} {v0 v1 v2 v3 : Value} (h : Four W b v0 v1 v2 v3) (x0 x1 x2 x3 : Value) : ((((W.setCell ⟨b, 0, none⟩ x0).setCell ⟨b, 1, none⟩ x1).setCell ⟨b, 2, none⟩ x2).setCell ⟨b, 3, none⟩ x3).rangeAt b 0 [x0, x1, x2, x3] := by
  obtain ⟨⟨a0, a1, a2, a3⟩, f0, f1, f2, f3⟩ := h
  exact World.rangeAt_setCells_same W b 0 [x0, x1, x2, x3] (fun j hj => by
    have hj4 : j = 0 ∨ j = 1 ∨ j = 2 ∨ j = 3 := by have : j < 4 := hj; omega
    rcases hj4 with rfl | rfl | rfl | rfl
    · exact ⟨by show (W.cell? ⟨b, 0, none⟩).isSome = true; rw [a0]; rfl, f0⟩
    · exact ⟨by show (W.cell? ⟨b, 1, none⟩).isSome = true; rw [a1]; rfl, f1⟩
    · exact ⟨by show (W.cell? ⟨b, 2, none⟩).isSome = true; rw [a2]; rfl, f2⟩
    · exact ⟨by show (W.cell? ⟨b, 3, none⟩).isSome = true; rw [a3]; rfl, f3⟩)
set_option maxRecDepth 100000 in
set_option maxHeartbeats 6400000 in
theorem LapFn_any (c : Cl) (n : Int) (b7 b5 b6 b3 b4 b1 x1 x2 : Nat) (w : World) (hc : c.Ok) (hm : mayC c = true) (h0 : 0 ≤ n) (h1 : n < 146097)
    (hL : LpS w b7 b5 b6 b3 b4 b1 (.func (.func 103) #[] #[.pointer (some ⟨x1, 0, none⟩), .pointer (some ⟨x2, 0, none⟩)]) c w.heap.size)
    (hcall : ∀ W', Below w.heap.size w W' → Calls Try.prog 103 #[shN n, .pointer (some ⟨x1, 0, none⟩), .pointer (some ⟨x2, 0, none⟩)] W' fun e w' => e = .returned (.bool (dayC c n)) ∧ Below W'.heap.size W' w') :
    Calls Try.prog 168 #[shN n, .pointer (some ⟨b7, 0, none⟩), .pointer (some ⟨b5, 0, none⟩), .pointer (some ⟨b6, 0, none⟩), .pointer (some ⟨b3, 0, none⟩), .pointer (some ⟨b4, 0, none⟩), .pointer (some ⟨b1, 0, none⟩)] w fun e w' => e = .returned (stateV c n) ∧ Below w.heap.size w w' := by
  obtain ⟨-, hst, hu, ha⟩ := may_ord hm
  have cC := hid (fun W hn => SCut_at n W hn)
  have cZ := hid (fun W => Size_any c.unit W)
  have cP := hid (fun W hz => Phase_any c.unit c.step c.anchor n W hu ha hst hc.step h0 h1 hz)
  have hz := sizeU_cases c.unit
  have HL := hid hL
  have HC := hid hcall
  have hn0 : shF n 0 = n := rfl
  rw [stateV, phaseC]
  obtain ⟨p, hp⟩ : ∃ p, (whichI c.unit c.anchor - 86400 * n / sizeU c.unit) % c.step = p := ⟨_, rfl⟩
  rw [hp] at cP ⊢
  obtain ⟨z, hzz⟩ : ∃ z, sizeU c.unit = z := ⟨_, rfl⟩
  rw [hzz] at cZ cP hz ⊢
  obtain ⟨x, hx⟩ : ∃ x, dayC c n = x := ⟨_, rfl⟩
  rw [hx] at HC ⊢
  clear hp hzz hx hcall hL hm hu ha
  rw [← shq_shF] at HC ⊢
  obtain ⟨s, hs⟩ : ∃ s, shF n = s := ⟨_, rfl⟩
  rw [hs] at HC hn0 ⊢
  clear hs
  rw [shq] at HC ⊢
  obtain rfl : s 0 = n := hn0
  have hB0 : Below w.heap.size w ((w.alloc (.cells (shList s).toArray 60)).alloc (.cells #[.bool false, .int .i64 0, .int .i64 0, .int .i64 0] 98)) := below_new (below_new (Below.refl _ _) (Nat.le_refl _)) (by simp)
  have hF0 : Four ((w.alloc (.cells (shList s).toArray 60)).alloc (.cells #[.bool false, .int .i64 0, .int .i64 0, .int .i64 0] 98)) (w.heap.size + 1) (.bool false) (.int .i64 0) (.int .i64 0) (.int .i64 0) := by
    have h := four_new (w.alloc (.cells (shList s).toArray 60)) (.bool false) (.int .i64 0) (.int .i64 0) (.int .i64 0) 98
    rw [World.size_alloc] at h
    exact h
  have HB0 := hid hB0
  have HF0 := hid hF0
  obtain ⟨k7, k5, k6, k3, -, -, -⟩ := HL.out.below hB0
  have hlt0 : ¬ s 0 < 0 := by omega
  have hlt1 : ¬ (146096 : Int) < s 0 := by omega
  clear hB0 hF0
  go_enter Try.func168, Try.ntmps168
  go_wp2_with fail
  refine (HC.out _ HB0.out).mono ?_
  rintro e w1 ⟨rfl, hB1⟩
  have HB1 : Hid (Below w.heap.size w w1) := HB0.out.trans (hB1.mono (by simp only [World.size_alloc]; omega))
  have HF1 := hid (HF0.out.below hB1 (by simp only [World.size_alloc]; omega))
  have Hs1 : Hid (w.heap.size + 1 < w1.heap.size) := by have := hB1.size; simp only [World.size_alloc] at this; show _ < _; omega
  clear hB1 k7 k5 k6 k3 HC HF0 HB0
  cases x
  · obtain ⟨⟨a0, a1, a2, a3⟩, f0, f1, f2, f3⟩ := HF1.out
    go_wp2
    exact bodyPost_ret (results_cell_mid rfl _ _ (w.heap.size + 1) 0 _ _ rfl (HF1.out.put _ _ _ _) Try.underlying98 rfl infoSt) rfl ⟨rfl, below_set (below_set (below_set (below_set HB1.out (by omega)) (by omega)) (by omega)) (by omega)⟩
  have hnV := below_new (o := .cells #[.bool true, .int .i64 0, .int .i64 86399, .int .i64 0] 98) (Below.refl w1.heap.size w1) (Nat.le_refl _)
  have HLV := hid ((HL.out.below HB1.out).below (hnV.mono (by have := Hs1.out; omega)))
  have HFV := hid (HF1.out.below hnV Hs1.out)
  have HTV := hid (four_new w1 (.bool true) (.int .i64 0) (.int .i64 86399) (.int .i64 0) 98)
  have HBV := hid (HB1.out.trans (hnV.mono (by have := Hs1.out; omega)))
  clear hnV
  have HSV : Hid (w1.heap.size < (w1.alloc (.cells #[.bool true, .int .i64 0, .int .i64 86399, .int .i64 0] 98)).heap.size) := by show _ < _; simp
  by_cases he : s 0 = 0 ∨ s 0 = 146096
  · have hE : Hid (s 0 = 0 ∨ s 0 = 146096) := he
    obtain ⟨k7, k5, k6, k3, ⟨k4, k4'⟩, -, -⟩ := HLV.out
    have hq : ((s 0 == 0) = true) ∨ ((s 0 == 0) = false ∧ (s 0 == 146096) = true) := by
      rcases he with h | h <;> simp [h]
    clear he
    rcases hq with hq | ⟨hq, hq2⟩
    all_goals
      go_wp2_with fail
      refine (cC.out _ hE.out).mono ?_
      rintro e w2 ⟨rfl, hB2⟩
      clear k7 k5 k6 k3 k4 k4'
      have HL2 := hid (HLV.out.below (hB2.mono (by have := Hs1.out; simp only [World.size_alloc]; omega)))
      have HF2 := hid (HFV.out.below hB2 (by have := Hs1.out; simp only [World.size_alloc]; omega))
      have HT2 := hid (HTV.out.below hB2 (by simp))
      have HB2 := hid (HBV.out.trans (hB2.mono (by have := Hs1.out; simp only [World.size_alloc]; omega)))
      have Hs2 : Hid (w1.heap.size < w2.heap.size) := by have := hB2.size; rw [World.size_alloc] at this; exact this
      clear hB2
      have hbX : Below w1.heap.size w2 ((w2.setCell ⟨w1.heap.size, 1, none⟩ (.int .i64 0)).setCell ⟨w1.heap.size, 2, none⟩ (.int .i64 86399)) := below_set (below_set (Below.refl _ _) (Nat.le_refl _)) (Nat.le_refl _)
      have HLX := hid (HL2.out.below (hbX.mono (by have := Hs1.out; omega)))
      have HFX := hid (HF2.out.below hbX Hs1.out)
      have HTX := hid (HT2.out.set1 (.int .i64 0) (.int .i64 86399))
      have HBX := hid (HB2.out.trans (hbX.mono (by have := Hs1.out; omega)))
      have HSX : Hid (w1.heap.size < ((w2.setCell ⟨w1.heap.size, 1, none⟩ (.int .i64 0)).setCell ⟨w1.heap.size, 2, none⟩ (.int .i64 86399)).heap.size) := by show _ < _; rw [World.size_setCell, World.size_setCell]; exact Hs2.out
      clear hbX
      by_cases h1s : 1 < c.step
      · have hd1 : decide (1 < c.step) = true := decide_eq_true h1s
        rcases hz with hz | hz
        · have hval : Hid (Ending.returned (.agg [.bool true, .int .i64 0, .int .i64 86399, .int .i64 p].toArray) = .returned (if true = true then stv true 0 86399 (if 1 < c.step ∧ 0 < z then p else 0) else stv false 0 0 0)) := by show _ = _; rw [if_pos rfl, if_pos ⟨h1s, hz⟩]
          have hd2 : decide (0 < z) = true := decide_eq_true hz
          obtain ⟨t0, t1, t2, -, -⟩ := HLX.out.c1.tail
          obtain ⟨⟨m0, m1, m2, m3⟩, n0, n1, n2, n3⟩ := HT2.out
          go_wp2_with fail
          refine (cZ.out _).mono ?_
          rintro e w3 ⟨rfl, hB3⟩
          have HL3 := hid (HLX.out.below (hB3.mono (by have := HSX.out; have := Hs1.out; omega)))
          have HF3 := hid (HFX.out.below hB3 (by have := HSX.out; have := Hs1.out; omega))
          have HT3 := hid (HTX.out.below hB3 HSX.out)
          have HB3 := hid (HBX.out.trans (hB3.mono (by have := HSX.out; have := Hs1.out; omega)))
          have Hs3 : Hid (w1.heap.size < w3.heap.size) := Nat.lt_of_lt_of_le HSX.out hB3.size
          clear hB3 t0 t1 t2
          obtain ⟨t0, t1, t2, -, -⟩ := HL3.out.c1.tail
          go_wp2_with fail
          refine (cP.out _ hz).mono ?_
          rintro e w4 ⟨rfl, hB4⟩
          have HF4 := hid (HF3.out.below hB4 (by have := Hs3.out; have := Hs1.out; omega))
          have HT4 := hid (HT3.out.below hB4 Hs3.out)
          have HB4 := hid (HB3.out.trans (hB4.mono (by have := Hs3.out; have := Hs1.out; omega)))
          clear hB4 t0 t1 t2
          obtain ⟨⟨a0, a1, a2, a3⟩, f0, f1, f2, f3⟩ := HF4.out
          obtain ⟨⟨d0, d1, d2, d3⟩, -, -, -, g3⟩ := HT4.out
          have hF5 : Four (w4.setCell ⟨w1.heap.size, 3, none⟩ (.int .i64 p)) (w.heap.size + 1) (.bool false) (.int .i64 0) (.int .i64 0) (.int .i64 0) := HF4.out.below (below_set (Below.refl w1.heap.size w4) (Nat.le_refl _)) Hs1.out
          have hB5 : Below w.heap.size w (w4.setCell ⟨w1.heap.size, 3, none⟩ (.int .i64 p)) := below_set HB4.out (by have := Hs1.out; omega)
          have HF5 := hid hF5
          have HB5 := hid hB5
          obtain ⟨⟨j0, j1, j2, j3⟩, i0, i1, i2, i3⟩ := hF5
          clear hB5
          go_wp2
          exact bodyPost_ret (results_cell_mid rfl _ _ (w.heap.size + 1) 0 _ _ rfl (HF5.out.put _ _ _ _) Try.underlying98 rfl infoSt) rfl ⟨by first | rfl | exact hval.out, below_set (below_set (below_set (below_set HB5.out (by omega)) (by omega)) (by omega)) (by omega)⟩
        · have hval : Hid (Ending.returned (.agg [.bool true, .int .i64 0, .int .i64 86399, .int .i64 0].toArray) = .returned (if true = true then stv true 0 86399 (if 1 < c.step ∧ 0 < z then p else 0) else stv false 0 0 0)) := by show _ = _; rw [if_pos rfl, if_neg (by omega)]
          subst hz
          obtain ⟨t0, t1, t2, -, -⟩ := HLX.out.c1.tail
          obtain ⟨⟨m0, m1, m2, m3⟩, n0, n1, n2, n3⟩ := HT2.out
          go_wp2_with fail
          refine (cZ.out _).mono ?_
          rintro e w3 ⟨rfl, hB3⟩
          have HF3 := hid (HFX.out.below hB3 (by have := HSX.out; have := Hs1.out; omega))
          have HT3 := hid (HTX.out.below hB3 HSX.out)
          have HB3 := hid (HBX.out.trans (hB3.mono (by have := HSX.out; have := Hs1.out; omega)))
          clear hB3 t0 t1 t2
          obtain ⟨⟨a0, a1, a2, a3⟩, f0, f1, f2, f3⟩ := HF3.out
          obtain ⟨⟨d0, d1, d2, d3⟩, -, -, -, -⟩ := HT3.out
          go_wp2
          exact bodyPost_ret (results_cell_mid rfl _ _ (w.heap.size + 1) 0 _ _ rfl (HF3.out.put _ _ _ _) Try.underlying98 rfl infoSt) rfl ⟨by first | rfl | exact hval.out, below_set (below_set (below_set (below_set HB3.out (by omega)) (by omega)) (by omega)) (by omega)⟩
      · have hd1 : decide (1 < c.step) = false := decide_eq_false h1s
        have hval : Hid (Ending.returned (.agg [.bool true, .int .i64 0, .int .i64 86399, .int .i64 0].toArray) = .returned (if true = true then stv true 0 86399 (if 1 < c.step ∧ 0 < z then p else 0) else stv false 0 0 0)) := by show _ = _; rw [if_pos rfl, if_neg (by omega)]
        obtain ⟨t0, t1, t2, -, -⟩ := HLX.out.c1.tail
        obtain ⟨⟨a0, a1, a2, a3⟩, f0, f1, f2, f3⟩ := HFX.out
        obtain ⟨⟨d0, d1, d2, d3⟩, -, -, -, -⟩ := HTX.out
        obtain ⟨⟨m0, m1, m2, m3⟩, n0, n1, n2, n3⟩ := HT2.out
        go_wp2
        exact bodyPost_ret (results_cell_mid rfl _ _ (w.heap.size + 1) 0 _ _ rfl (HFX.out.put _ _ _ _) Try.underlying98 rfl infoSt) rfl ⟨by first | rfl | exact hval.out, below_set (below_set (below_set (below_set HBX.out (by omega)) (by omega)) (by omega)) (by omega)⟩
  · obtain ⟨-, k5, k6, -, -, -, -⟩ := HLV.out
    have hq : (s 0 == 0) = false := by simp; omega
    have hq2 : (s 0 == 146096) = false := by simp; omega
    clear he
    by_cases h1s : 1 < c.step
    · have hd1 : decide (1 < c.step) = true := decide_eq_true h1s
      rcases hz with hz | hz
      · have hval : Hid (Ending.returned (.agg [.bool true, .int .i64 0, .int .i64 86399, .int .i64 p].toArray) = .returned (if true = true then stv true 0 86399 (if 1 < c.step ∧ 0 < z then p else 0) else stv false 0 0 0)) := by show _ = _; rw [if_pos rfl, if_pos ⟨h1s, hz⟩]
        have hd2 : decide (0 < z) = true := decide_eq_true hz
        obtain ⟨t0, t1, t2, -, -⟩ := HLV.out.c1.tail
        skip
        go_wp2_with fail
        refine (cZ.out _).mono ?_
        rintro e w3 ⟨rfl, hB3⟩
        have HL3 := hid (HLV.out.below (hB3.mono (by have := HSV.out; have := Hs1.out; omega)))
        have HF3 := hid (HFV.out.below hB3 (by have := HSV.out; have := Hs1.out; omega))
        have HT3 := hid (HTV.out.below hB3 HSV.out)
        have HB3 := hid (HBV.out.trans (hB3.mono (by have := HSV.out; have := Hs1.out; omega)))
        have Hs3 : Hid (w1.heap.size < w3.heap.size) := Nat.lt_of_lt_of_le HSV.out hB3.size
        clear hB3 t0 t1 t2
        obtain ⟨t0, t1, t2, -, -⟩ := HL3.out.c1.tail
        go_wp2_with fail
        refine (cP.out _ hz).mono ?_
        rintro e w4 ⟨rfl, hB4⟩
        have HF4 := hid (HF3.out.below hB4 (by have := Hs3.out; have := Hs1.out; omega))
        have HT4 := hid (HT3.out.below hB4 Hs3.out)
        have HB4 := hid (HB3.out.trans (hB4.mono (by have := Hs3.out; have := Hs1.out; omega)))
        clear hB4 t0 t1 t2
        obtain ⟨⟨a0, a1, a2, a3⟩, f0, f1, f2, f3⟩ := HF4.out
        obtain ⟨⟨d0, d1, d2, d3⟩, -, -, -, g3⟩ := HT4.out
        have hF5 : Four (w4.setCell ⟨w1.heap.size, 3, none⟩ (.int .i64 p)) (w.heap.size + 1) (.bool false) (.int .i64 0) (.int .i64 0) (.int .i64 0) := HF4.out.below (below_set (Below.refl w1.heap.size w4) (Nat.le_refl _)) Hs1.out
        have hB5 : Below w.heap.size w (w4.setCell ⟨w1.heap.size, 3, none⟩ (.int .i64 p)) := below_set HB4.out (by have := Hs1.out; omega)
        have HF5 := hid hF5
        have HB5 := hid hB5
        obtain ⟨⟨j0, j1, j2, j3⟩, i0, i1, i2, i3⟩ := hF5
        clear hB5
        go_wp2
        exact bodyPost_ret (results_cell_mid rfl _ _ (w.heap.size + 1) 0 _ _ rfl (HF5.out.put _ _ _ _) Try.underlying98 rfl infoSt) rfl ⟨by first | rfl | exact hval.out, below_set (below_set (below_set (below_set HB5.out (by omega)) (by omega)) (by omega)) (by omega)⟩
      · have hval : Hid (Ending.returned (.agg [.bool true, .int .i64 0, .int .i64 86399, .int .i64 0].toArray) = .returned (if true = true then stv true 0 86399 (if 1 < c.step ∧ 0 < z then p else 0) else stv false 0 0 0)) := by show _ = _; rw [if_pos rfl, if_neg (by omega)]
        subst hz
        obtain ⟨t0, t1, t2, -, -⟩ := HLV.out.c1.tail
        skip
        go_wp2_with fail
        refine (cZ.out _).mono ?_
        rintro e w3 ⟨rfl, hB3⟩
        have HF3 := hid (HFV.out.below hB3 (by have := HSV.out; have := Hs1.out; omega))
        have HT3 := hid (HTV.out.below hB3 HSV.out)
        have HB3 := hid (HBV.out.trans (hB3.mono (by have := HSV.out; have := Hs1.out; omega)))
        clear hB3 t0 t1 t2
        obtain ⟨⟨a0, a1, a2, a3⟩, f0, f1, f2, f3⟩ := HF3.out
        obtain ⟨⟨d0, d1, d2, d3⟩, -, -, -, -⟩ := HT3.out
        go_wp2
        exact bodyPost_ret (results_cell_mid rfl _ _ (w.heap.size + 1) 0 _ _ rfl (HF3.out.put _ _ _ _) Try.underlying98 rfl infoSt) rfl ⟨by first | rfl | exact hval.out, below_set (below_set (below_set (below_set HB3.out (by omega)) (by omega)) (by omega)) (by omega)⟩
    · have hd1 : decide (1 < c.step) = false := decide_eq_false h1s
      have hval : Hid (Ending.returned (.agg [.bool true, .int .i64 0, .int .i64 86399, .int .i64 0].toArray) = .returned (if true = true then stv true 0 86399 (if 1 < c.step ∧ 0 < z then p else 0) else stv false 0 0 0)) := by show _ = _; rw [if_pos rfl, if_neg (by omega)]
      obtain ⟨t0, t1, t2, -, -⟩ := HLV.out.c1.tail
      obtain ⟨⟨a0, a1, a2, a3⟩, f0, f1, f2, f3⟩ := HFV.out
      obtain ⟨⟨d0, d1, d2, d3⟩, -, -, -, -⟩ := HTV.out
      skip
      go_wp2
      exact bodyPost_ret (results_cell_mid rfl _ _ (w.heap.size + 1) 0 _ _ rfl (HFV.out.put _ _ _ _) Try.underlying98 rfl infoSt) rfl ⟨by first | rfl | exact hval.out, below_set (below_set (below_set (below_set HBV.out (by omega)) (by omega)) (by omega)) (by omega)⟩
end Go.Proofs.Ytndfckpcbiecnaa
namespace Go.Proofs.Ytndfckpcbiecnaa
open Go.RowKit
set_option linter.unusedVariables false

/-- the function of clause.Days, as long as the blocks from lo to hi stand as they stood in W -/
def DCS (W : World) (lo hi : Nat) (c : Cl) (x1 x2 : Nat) : Prop :=
  ∀ (n : Int) (W' : World), 0 ≤ n → n < 146097 → hi ≤ W'.heap.size → (∀ b, lo ≤ b → b < hi → W'.heap[b]? = W.heap[b]?) →
    Calls Try.prog 103 #[shN n, .pointer (some ⟨x1, 0, none⟩), .pointer (some ⟨x2, 0, none⟩)] W' fun e w' => e = .returned (.bool (dayC c n)) ∧ Below W'.heap.size W' w'
theorem UDV.blocks {W W' : World} {lo : Nat} {u s a : Int} {fv : Value} (h : UDV W lo u s a fv) (hs : W.heap.size ≤ W'.heap.size) (hb : ∀ b, lo ≤ b → b < W.heap.size → W'.heap[b]? = W.heap[b]?) : UDV W' lo u s a fv := by
  rcases h with h | h | ⟨h1, h2, h3, b3, b7, b4, h4, h5, h6, h7, h8⟩
  · exact .inl h
  · exact .inr (.inl h)
  · refine .inr (.inr ⟨h1, h2, h3, b3, b7, b4, h4, h5.keep hs (fun b hb' => ?_), h6, h7, h8⟩)
    rcases hb' with rfl | rfl | rfl
    · exact hb _ h6 h5.l3
    · exact hb _ h7 h5.l7
    · exact hb _ h8 h5.l4
theorem CDV.dcs {W : World} {lo : Nat} {c : Cl} {fv : Value} (h : CDV W lo c fv) (hm : mayC c = true) (hc : c.Ok) :
    ∃ x1 x2 : Nat, fv = .func (.func 103) #[] #[.pointer (some ⟨x1, 0, none⟩), .pointer (some ⟨x2, 0, none⟩)] ∧ DCS W lo W.heap.size c x1 x2 := by
  rcases h with ⟨h, -⟩ | ⟨-, b1, b2, v, rfl, hcl, l1, hv, l2, o1, o2, hu⟩
  · rw [hm] at h; cases h
  · refine ⟨b1, b2, rfl, fun n W' h0 h1 hs hb => ?_⟩
    rw [dayC, hm, Bool.true_and]
    have e1 : ClB W' b1 c := fun j x hx => (World.cell?_of_block (w := W) (a := ⟨b1, 0 + j, none⟩) (hb b1 o1 l1)).trans (hcl j x hx)
    have e2 : W'.cell? ⟨b2, 0, none⟩ = some v := (World.cell?_of_block (w := W) (a := ⟨b2, 0, none⟩) (hb b2 o2 l2)).trans hv
    exact CD2_any c n b1 b2 lo v W' hc (may_ord hm).1 h0 h1 e1 (by omega) e2 (by omega) (hu.blocks hs hb)
theorem DCS.call {W W' : World} {lo hi : Nat} {c : Cl} {x1 x2 : Nat} (h : DCS W lo hi c x1 x2) (hs : hi ≤ W'.heap.size) (hb : ∀ b, lo ≤ b → b < hi → W'.heap[b]? = W.heap[b]?) : DCS W' lo hi c x1 x2 :=
  fun n X h0 h1 hX hbX => h n X h0 h1 hX (fun b h2 h3 => (hbX b h2 h3).trans (hb b h2 h3))
theorem DCS.below {W W' : World} {lo hi : Nat} {c : Cl} {x1 x2 : Nat} (h : DCS W lo hi c x1 x2) (hs : hi ≤ W.heap.size) (hb : Below W.heap.size W W') : DCS W' lo hi c x1 x2 :=
  h.call (Nat.le_trans hs hb.size) (fun b _ h2 => hb.block b (by omega))
theorem DCS.set {W : World} {lo hi b o : Nat} {v : Value} {c : Cl} {x1 x2 : Nat} (h : DCS W lo hi c x1 x2) (hs : hi ≤ W.heap.size) (hb : b < lo ∨ hi ≤ b) : DCS (W.setCell ⟨b, o, none⟩ v) lo hi c x1 x2 :=
  h.call (by rw [World.size_setCell]; exact hs) (fun k h1 h2 => by
    exact Go.Deep.blk_setCell_other W ⟨b, o, none⟩ v k (by show ¬ k = b; omega))
end Go.Proofs.Ytndfckpcbiecnaa
namespace Go.Proofs.Ytndfckpcbiecnaa
open Go.RowKit
set_option linter.unusedVariables false

attribute [local go_sem ↓] loadAt_cl
attribute [local go_sem] run_storeFn
abbrev LaS (w : World) (c : Cl) (W : World) : Prop :=
  (loadClS (.pointer (some ⟨w.heap.size, 0, none⟩))).run Try.prog W = .ok (clv c) W ∧ ClB W w.heap.size c ∧ Below w.heap.size w W ∧ w.heap.size < W.heap.size
theorem LaS.of {w W : World} {c : Cl} (h : ClB W w.heap.size c) (hb : Below w.heap.size w W) (hs : w.heap.size < W.heap.size) : LaS w c W := ⟨h.ld, h, hb, hs⟩
theorem LaS.keep {w W W' : World} {c : Cl} (h : LaS w c W) (hb : Below W.heap.size W W') : LaS w c W' :=
  LaS.of (h.2.1.below hb h.2.2.2) (h.2.2.1.trans (hb.mono (Nat.le_of_lt h.2.2.2))) (Nat.lt_of_lt_of_le h.2.2.2 hb.size)
theorem LaS.set {w W : World} {c : Cl} {b o : Nat} {v : Value} (h : LaS w c W) (hb : w.heap.size < b) : LaS w c (W.setCell ⟨b, o, none⟩ v) :=
  LaS.of (fun j x hx => by
    rw [World.cell?_setCell_other _ _ _ _ (by intro e; injection e with e _ _; omega)]
    exact h.2.1 j x hx) (below_set h.2.2.1 (Nat.le_of_lt hb)) (by rw [World.size_setCell]; exact h.2.2.2)
/-- a block of one cell -/
structure B1 (w W : World) (b : Nat) (v : Value) : Prop where
  c : W.cell? ⟨b, 0, none⟩ = some v
  f : W.frozen? ⟨b, 0, none⟩ = false
  l : b < W.heap.size
  g : w.heap.size < b
structure B2 (w W : World) (b : Nat) (v u : Value) : Prop where
  c : W.cell? ⟨b, 0, none⟩ = some v ∧ W.cell? ⟨b, 1, none⟩ = some u
  f : W.frozen? ⟨b, 0, none⟩ = false ∧ W.frozen? ⟨b, 1, none⟩ = false
  l : b < W.heap.size
  g : w.heap.size < b
theorem B1.below {w W W' : World} {b : Nat} {v : Value} (h : B1 w W b v) (hb : Below W.heap.size W W') : B1 w W' b v :=
  ⟨(hb.cell (p := ⟨b, 0, none⟩) h.l).trans h.c, (hb.frozen (p := ⟨b, 0, none⟩) h.l).trans h.f, Nat.lt_of_lt_of_le h.l hb.size, h.g⟩
theorem B2.below {w W W' : World} {b : Nat} {v u : Value} (h : B2 w W b v u) (hb : Below W.heap.size W W') : B2 w W' b v u :=
  ⟨⟨(hb.cell (p := ⟨b, 0, none⟩) h.l).trans h.c.1, (hb.cell (p := ⟨b, 1, none⟩) h.l).trans h.c.2⟩, ⟨(hb.frozen (p := ⟨b, 0, none⟩) h.l).trans h.f.1, (hb.frozen (p := ⟨b, 1, none⟩) h.l).trans h.f.2⟩, Nat.lt_of_lt_of_le h.l hb.size, h.g⟩
theorem b1_new {w W : World} (v : Value) (t : TypeId) (h : w.heap.size < W.heap.size) : B1 w (W.alloc (.cells #[v] t)) W.heap.size v := ⟨by simp [go_sem], by simp [go_sem], by simp, h⟩
theorem b2_new {w W : World} (v u : Value) (t : TypeId) (h : w.heap.size < W.heap.size) : B2 w (W.alloc (.cells #[v, u] t)) W.heap.size v u := ⟨⟨by simp [go_sem], by simp [go_sem]⟩, ⟨by simp [go_sem], by simp [go_sem]⟩, by simp, h⟩
/-- what lap.Laps hands back: its function, its boxes, and clause.Days' function in one of these -/
def LpV (W : World) (c : Cl) (fv : Value) : Prop :=
  ∃ b7 b5 b6 b3 b4 b1 x1 x2 lo hi : Nat,
    fv = .func (.func 168) #[] #[.pointer (some ⟨b7, 0, none⟩), .pointer (some ⟨b5, 0, none⟩), .pointer (some ⟨b6, 0, none⟩), .pointer (some ⟨b3, 0, none⟩), .pointer (some ⟨b4, 0, none⟩), .pointer (some ⟨b1, 0, none⟩)] ∧
    LpS W b7 b5 b6 b3 b4 b1 (.func (.func 103) #[] #[.pointer (some ⟨x1, 0, none⟩), .pointer (some ⟨x2, 0, none⟩)]) c W.heap.size ∧ DCS W lo hi c x1 x2 ∧ hi ≤ W.heap.size
/-- halfway: the two boxes of has and all -/
structure LpH (w W : World) (c : Cl) (b3 b4 x1 x2 lo hi : Nat) : Prop where
  c3 : W.cell? ⟨b3, 0, none⟩ = some (.func (.func 103) #[] #[.pointer (some ⟨x1, 0, none⟩), .pointer (some ⟨x2, 0, none⟩)])
  c4 : W.cell? ⟨b4, 0, none⟩ = some (.int .i64 0) ∧ W.cell? ⟨b4, 1, none⟩ = some (.int .i64 12622780799)
  c1 : ClB W w.heap.size c
  l : b3 < W.heap.size ∧ b4 < W.heap.size ∧ w.heap.size < W.heap.size
  d : DCS W lo hi c x1 x2
  hi : hi ≤ W.heap.size
  b : Below w.heap.size w W
theorem LpH.below {w W W' : World} {c : Cl} {b3 b4 x1 x2 lo hi : Nat} (h : LpH w W c b3 b4 x1 x2 lo hi) (hb : Below W.heap.size W W') : LpH w W' c b3 b4 x1 x2 lo hi := by
  have hs := hb.size
  obtain ⟨l3, l4, l1⟩ := h.l
  exact ⟨(hb.cell (p := ⟨b3, 0, none⟩) l3).trans h.c3, ⟨(hb.cell (p := ⟨b4, 0, none⟩) l4).trans h.c4.1, (hb.cell (p := ⟨b4, 1, none⟩) l4).trans h.c4.2⟩, h.c1.below hb l1,
    ⟨by omega, by omega, by omega⟩, h.d.below h.hi hb, Nat.le_trans h.hi hs, h.b.trans (hb.mono (Nat.le_of_lt l1))⟩
theorem lpH_of {w X : World} {c : Cl} {b3 b4 x1 x2 lo hi : Nat} (hne : ¬ b4 = b3) (g0 : X.cell? ⟨b3, 0, none⟩ = some .nilFunc) (j0 : X.cell? ⟨b4, 0, none⟩ = some (.int .i64 0)) (j1 : X.cell? ⟨b4, 1, none⟩ = some (.int .i64 0))
    (l3 : b3 < X.heap.size) (l4 : b4 < X.heap.size) (g3 : w.heap.size < b3) (g4 : w.heap.size < b4) (hS : LaS w c X) (hD : DCS X lo hi c x1 x2) (hhi : hi ≤ X.heap.size) (o3 : b3 < lo ∨ hi ≤ b3) (o4 : b4 < lo ∨ hi ≤ b4) :
    LpH w (((X.setCell ⟨b3, 0, none⟩ (.func (.func 103) #[] #[.pointer (some ⟨x1, 0, none⟩), .pointer (some ⟨x2, 0, none⟩)])).setCell ⟨b4, 0, none⟩ (.int .i64 0)).setCell ⟨b4, 1, none⟩ (.int .i64 12622780799)) c b3 b4 x1 x2 lo hi := by
  have ne : ∀ i j : Nat, (⟨b4, i, none⟩ : Addr) ≠ ⟨b3, j, none⟩ := fun i j e => by injection e with e _ _; exact hne e
  have ne4 : (⟨b4, 1, none⟩ : Addr) ≠ ⟨b4, 0, none⟩ := fun e => by injection e with _ e _; cases e
  have hS' := LaS.set (o := 1) (v := .int .i64 12622780799) (LaS.set (o := 0) (v := .int .i64 0) (LaS.set (o := 0) (v := .func (.func 103) #[] #[.pointer (some ⟨x1, 0, none⟩), .pointer (some ⟨x2, 0, none⟩)]) hS g3) g4) g4
  refine ⟨?_, ⟨?_, ?_⟩, hS'.2.1, ⟨by simpa only [World.size_setCell] using l3, by simpa only [World.size_setCell] using l4, hS'.2.2.2⟩, ?_, by simpa only [World.size_setCell] using hhi, hS'.2.2.1⟩
  · rw [World.cell?_setCell_other _ _ _ _ (ne _ _), World.cell?_setCell_other _ _ _ _ (ne _ _)]
    exact World.cell?_setCell_same _ _ _ g0
  · rw [World.cell?_setCell_other _ _ _ _ ne4]
    exact World.cell?_setCell_same _ _ _ (by rw [World.cell?_setCell_other _ _ _ _ (ne _ _).symm]; exact j0)
  · exact World.cell?_setCell_same _ _ _ (by rw [World.cell?_setCell_other _ _ _ _ ne4.symm, World.cell?_setCell_other _ _ _ _ (ne _ _).symm]; exact j1)
  · exact ((hD.set hhi o3).set (by simpa only [World.size_setCell] using hhi) o4).set (by simpa only [World.size_setCell] using hhi) o4
theorem LpH.fin {w W : World} {c : Cl} {b3 b4 x1 x2 lo hi : Nat} (h : LpH w W c b3 b4 x1 x2 lo hi) (t u : TypeId) :
    LpV (((W.alloc (.cells #[.int .i64 0] t)).alloc (.cells #[.int .i64 146096] t)).alloc (.cells #[.bool true] u)) c
      (.func (.func 168) #[] #[.pointer (some ⟨W.heap.size + 1 + 1, 0, none⟩), .pointer (some ⟨W.heap.size, 0, none⟩), .pointer (some ⟨W.heap.size + 1, 0, none⟩), .pointer (some ⟨b3, 0, none⟩), .pointer (some ⟨b4, 0, none⟩), .pointer (some ⟨w.heap.size, 0, none⟩)]) ∧
    Below w.heap.size w (((W.alloc (.cells #[.int .i64 0] t)).alloc (.cells #[.int .i64 146096] t)).alloc (.cells #[.bool true] u)) := by
  have hb := below_new (o := .cells #[.bool true] u) (below_new (o := .cells #[.int .i64 146096] t) (below_new (o := .cells #[.int .i64 0] t) (Below.refl W.heap.size W) (Nat.le_refl _)) (by simp only [World.size_alloc]; omega)) (by simp only [World.size_alloc]; omega)
  have h' := h.below hb
  obtain ⟨l3, l4, l1⟩ := h'.l
  refine ⟨⟨_, _, _, _, _, _, x1, x2, lo, hi, rfl, ⟨?_, ?_, ?_, h'.c3, h'.c4, h'.c1, by simp only [World.size_alloc]; omega, by simp only [World.size_alloc]; omega, by simp only [World.size_alloc]; omega, l3, l4, l1⟩, h'.d, h'.hi⟩, h'.b⟩
  · simp [go_sem]
  · simp [go_sem]
  · simp [go_sem]
set_option maxRecDepth 100000 in
set_option maxHeartbeats 25600000 in
theorem Laps_any (c : Cl) (w : World) (hc : c.Ok) (hm : mayC c = true) (hfr : c.fr = 0) (hun : c.un = 12622780799) : Calls Try.prog 125 #[clv c] w fun e w' => (∃ fv, e = .returned fv ∧ LpV w' c fv) ∧ Below w.heap.size w w' := by
  have cD : Hid (∀ W, LaS w c W → Calls Try.prog 36 #[clv c] W fun e w' => (∃ x1 x2 : Nat, e = .returned (.func (.func 103) #[] #[.pointer (some ⟨x1, 0, none⟩), .pointer (some ⟨x2, 0, none⟩)]) ∧ DCS w' W.heap.size w'.heap.size c x1 x2) ∧ Below W.heap.size W w') := fun W _ =>
    (CDays_any c W hc).mono fun e w' ⟨fv, he, hv, hb⟩ => by
      obtain ⟨x1, x2, rfl, hd⟩ := hv.dcs hm hc
      exact ⟨⟨x1, x2, he, hd⟩, hb⟩
  have cS := hid (fun W => CSpan_any c W)
  rw [hfr, hun, show heldF 0 12622780799 = 0 from rfl, show heldU 0 12622780799 = 12622780799 from rfl] at cS
  have HS0 : Hid (LaS w c (w.alloc (.cells (clList c).toArray 28)).drew) := (LaS.of (clB_new w c _) (below_new (Below.refl _ _) (Nat.le_refl _)) (by simp)).keep (Below.refl _ _).drew
  have cY := hid SDays_whole
  clear hc hm hfr hun
  go_enter Try.func125, Try.ntmps125
  go_wp2_with fail
  refine wp_region_held_drew (S := fun w' => LaS w c w') (by kernel_rfl) HS0.out (fun hHeld => ?_)
  refine wpAnyH_take (i := 0) (v := ?_) rfl (by kernel_rfl) (by kernel_rfl) (by kernel_rfl) (fun _ _ _ h => h) (Or.inl ⟨by rfl, ?_⟩) (by assumption) ?_
  rotate_left
  · intro w hSw; go_simp; (try with_reducible rfl)
  (try simp only [Act.put, List.getElem_toArray, List.getElem_cons_zero, List.setIfInBounds_toArray, List.set_cons_zero, List.set_cons_succ])
  refine wpAnyH_take (i := 2) (v := ?_) rfl (by kernel_rfl) (by kernel_rfl) (by kernel_rfl) (fun _ _ _ h => h) (Or.inl ⟨by rfl, ?_⟩) (by assumption) ?_
  rotate_left
  · intro w hSw; go_simp; (try with_reducible rfl)
  (try simp only [Act.put, List.getElem_toArray, List.getElem_cons_succ, List.getElem_cons_zero, List.setIfInBounds_toArray, List.set_cons_zero, List.set_cons_succ])
  refine wpAnyH_ready (rs := [1, 4, 5]) (by kernel_rfl) (by simp) ?_
  refine AllReadyH.cons rfl (fun K hK => ?_) (AllReadyH.cons rfl (fun K hK => ?_) (AllReadyH.cons rfl (fun K hK => ?_) AllReadyH.nil))
  · go_simp
    refine (cD.out _ (by assumption)).mono ?_
    rintro e wa ⟨⟨x1, x2, rfl, hdc⟩, hB⟩
    have HD := hid hdc
    have HZ : Hid (wa.heap.size ≤ wa.heap.size) := Nat.le_refl _
    have hS := LaS.keep hHeld hB
    clear hB
    (try go_wp2_with fail)
    refine hK.out _ _ hS (fun hHeld => ?_)
    clear hK K
    (try simp only [Act.put, List.getElem_toArray, List.getElem_cons_succ, List.getElem_cons_zero, List.setIfInBounds_toArray, List.set_cons_zero, List.set_cons_succ])
    refine wpAnyH_ready (rs := [3, 4, 5]) (by kernel_rfl) (by simp) ?_
    refine AllReadyH.cons rfl (fun K hK => ?_) (AllReadyH.cons rfl (fun K hK => ?_) (AllReadyH.cons rfl (fun K hK => ?_) AllReadyH.nil))
    · go_simp
      refine (cS.out _).mono ?_
      rintro e wb ⟨rfl, hB⟩
      have HD := hid (HD.out.below (by have := HZ.out; omega) hB)
      have HZ : Hid (wa.heap.size ≤ wb.heap.size) := Nat.le_trans HZ.out hB.size
      have hS := LaS.keep hHeld hB
      clear hB
      (try go_wp2_with fail)
      refine hK.out _ _ hS (fun hHeld => ?_)
      clear hK K
      (try simp only [Act.put, List.getElem_toArray, List.getElem_cons_succ, List.getElem_cons_zero, List.setIfInBounds_toArray, List.set_cons_zero, List.set_cons_succ])
      refine wpAnyH_ready (rs := [4, 5]) (by kernel_rfl) (by simp) ?_
      refine AllReadyH.cons rfl (fun K hK => ?_) (AllReadyH.cons rfl (fun K hK => ?_) AllReadyH.nil)
      · go_simp
        have hB := below_new (o := .cells #[.nilFunc] 62) (Below.refl wb.heap.size wb) (Nat.le_refl _)
        have N3 := hid (b1_new (w := w) (W := wb) .nilFunc 62 hHeld.2.2.2)
        have HD := hid (HD.out.below (by have := HZ.out; omega) hB)
        have O3 : Hid (wa.heap.size ≤ wb.heap.size) := HZ.out
        have HZ : Hid (wa.heap.size ≤ (wb.alloc (.cells #[.nilFunc] 62)).heap.size) := Nat.le_trans HZ.out hB.size
        have hS := LaS.keep hHeld hB
        clear hB
        (try go_wp2_with fail)
        refine hK.out _ _ hS (fun hHeld => ?_)
        clear hK K
        (try simp only [Act.put, List.getElem_toArray, List.getElem_cons_succ, List.getElem_cons_zero, List.setIfInBounds_toArray, List.set_cons_zero, List.set_cons_succ])
        refine wpAnyH_ready (rs := [5]) (by kernel_rfl) (by simp) ?_
        refine AllReadyH.cons rfl (fun K hK => ?_) AllReadyH.nil
        · go_simp
          have hB := below_new (o := .cells #[.int .i64 0, .int .i64 0] 53) (Below.refl (wb.alloc (.cells #[.nilFunc] 62)).heap.size (wb.alloc (.cells #[.nilFunc] 62))) (Nat.le_refl _)
          have N4 := hid (b2_new (w := w) (W := (wb.alloc (.cells #[.nilFunc] 62))) (.int .i64 0) (.int .i64 0) 53 hHeld.2.2.2)
          have O34 := hid N3.out.l
          have HD := hid (HD.out.below (by have := HZ.out; omega) hB)
          have O4 : Hid (wa.heap.size ≤ (wb.alloc (.cells #[.nilFunc] 62)).heap.size) := HZ.out
          have HZ : Hid (wa.heap.size ≤ ((wb.alloc (.cells #[.nilFunc] 62)).alloc (.cells #[.int .i64 0, .int .i64 0] 53)).heap.size) := Nat.le_trans HZ.out hB.size
          have N3 := hid (N3.out.below hB)
          have hS := LaS.keep hHeld hB
          clear hB
          (try go_wp2_with fail)
          refine hK.out _ _ hS (fun hHeld => ?_)
          clear hK K
          (try simp only [Act.put, List.getElem_toArray, List.getElem_cons_succ, List.getElem_cons_zero, List.setIfInBounds_toArray, List.set_cons_zero, List.set_cons_succ])
          obtain ⟨b3, hb3⟩ : ∃ b, wb.heap.size = b := ⟨_, rfl⟩
          obtain ⟨b4, hb4⟩ : ∃ b, (wb.alloc (.cells #[.nilFunc] 62)).heap.size = b := ⟨_, rfl⟩
          rw [hb3] at N3
          rw [hb4] at N4
          have hne : ¬ b4 = b3 := by have := O34.out; omega
          have p3 := O3.out
          have p4 := O4.out
          rw [hb3] at p3
          rw [hb4] at p4
          have o3 := O3.out
          have o4 := O4.out
          (try simp only [World.size_alloc] at hb3 hb4 o3 o4)
          (try rw [hb4])
          (try rw [hb3])
          obtain ⟨X, hX⟩ : ∃ X, ((wb.alloc (.cells #[.nilFunc] 62)).alloc (.cells #[.int .i64 0, .int .i64 0] 53)) = X := ⟨_, rfl⟩
          rw [hX] at N3 N4 HD HZ hHeld ⊢
          obtain ⟨g0, g1, -, g3⟩ := N3.out
          obtain ⟨⟨j0, j1⟩, ⟨j2, j3⟩, -, j5⟩ := N4.out
          have hS0 := hHeld
          refine wpAnyH_ready (rs := [6]) (by kernel_rfl) (by simp) ?_
          refine AllReadyH.cons rfl (fun K hK => ?_) AllReadyH.nil
          go_simp
          (try go_wp2_with fail)
          refine hK.out _ _ (LaS.set hHeld g3) (fun hHeld => ?_)
          clear hK K
          (try simp only [Act.put, List.getElem_toArray, List.getElem_cons_succ, List.getElem_cons_zero, List.setIfInBounds_toArray, List.set_cons_zero, List.set_cons_succ])
          have e0 : (X.setCell ⟨b3, 0, none⟩ (.func (.func 103) #[] #[.pointer (some ⟨x1, 0, none⟩), .pointer (some ⟨x2, 0, none⟩)])).cell? ⟨b4, 0, none⟩ = some (.int .i64 0) := by rw [World.cell?_setCell_other _ _ _ _ (by intro e; injection e with e _ _; exact hne e.symm)]; exact j0
          have e1 : (X.setCell ⟨b3, 0, none⟩ (.func (.func 103) #[] #[.pointer (some ⟨x1, 0, none⟩), .pointer (some ⟨x2, 0, none⟩)])).cell? ⟨b4, 1, none⟩ = some (.int .i64 0) := by rw [World.cell?_setCell_other _ _ _ _ (by intro e; injection e with e _ _; exact hne e.symm)]; exact j1
          have e2 : (X.setCell ⟨b3, 0, none⟩ (.func (.func 103) #[] #[.pointer (some ⟨x1, 0, none⟩), .pointer (some ⟨x2, 0, none⟩)])).frozen? ⟨b4, 0, none⟩ = false := by rw [frozen_set]; exact j2
          have e3 : (X.setCell ⟨b3, 0, none⟩ (.func (.func 103) #[] #[.pointer (some ⟨x1, 0, none⟩), .pointer (some ⟨x2, 0, none⟩)])).frozen? ⟨b4, 1, none⟩ = false := by rw [frozen_set]; exact j3
          refine wpAnyH_ready (rs := [7]) (by kernel_rfl) (by simp) ?_
          refine AllReadyH.cons rfl (fun K hK => ?_) AllReadyH.nil
          go_simp
          (try go_wp2_with fail)
          refine hK.out _ _ (LaS.set (LaS.set hHeld j5) j5) (fun hHeld => ?_)
          clear hK K
          (try simp only [Act.put, List.getElem_toArray, List.getElem_cons_succ, List.getElem_cons_zero, List.setIfInBounds_toArray, List.set_cons_zero, List.set_cons_succ])
          refine wpAnyH_done (by kernel_rfl) ?_ _
          have HH := hid (lpH_of hne g0 j0 j1 N3.out.l N4.out.l g3 j5 hS0 HD.out HZ.out (by omega) (by omega))
          go_wp2_with fail
          refine (cY.out _).mono ?_
          rintro e w5 ⟨rfl, hB⟩
          have H5 := hid (HH.out.below hB)
          clear hB HH HD HZ N3 N4 O3 O4 O34 e0 e1 e2 e3 hHeld hS0 g0 g1 j0 j1 j2 j3 hX hb3 hb4 o3 o4 p3 p4
          go_wp2
          go_ret
          exact ⟨⟨_, rfl, (H5.out.fin _ _).1⟩, (H5.out.fin _ _).2⟩
      · go_simp
        have hB := below_new (o := .cells #[.int .i64 0, .int .i64 0] 53) (Below.refl wb.heap.size wb) (Nat.le_refl _)
        have N4 := hid (b2_new (w := w) (W := wb) (.int .i64 0) (.int .i64 0) 53 hHeld.2.2.2)
        have HD := hid (HD.out.below (by have := HZ.out; omega) hB)
        have O4 : Hid (wa.heap.size ≤ wb.heap.size) := HZ.out
        have HZ : Hid (wa.heap.size ≤ (wb.alloc (.cells #[.int .i64 0, .int .i64 0] 53)).heap.size) := Nat.le_trans HZ.out hB.size
        have hS := LaS.keep hHeld hB
        clear hB
        (try go_wp2_with fail)
        refine hK.out _ _ hS (fun hHeld => ?_)
        clear hK K
        (try simp only [Act.put, List.getElem_toArray, List.getElem_cons_succ, List.getElem_cons_zero, List.setIfInBounds_toArray, List.set_cons_zero, List.set_cons_succ])
        refine wpAnyH_ready (rs := [4]) (by kernel_rfl) (by simp) ?_
        refine AllReadyH.cons rfl (fun K hK => ?_) AllReadyH.nil
        · go_simp
          have hB := below_new (o := .cells #[.nilFunc] 62) (Below.refl (wb.alloc (.cells #[.int .i64 0, .int .i64 0] 53)).heap.size (wb.alloc (.cells #[.int .i64 0, .int .i64 0] 53))) (Nat.le_refl _)
          have N3 := hid (b1_new (w := w) (W := (wb.alloc (.cells #[.int .i64 0, .int .i64 0] 53))) .nilFunc 62 hHeld.2.2.2)
          have O34 := hid N4.out.l
          have HD := hid (HD.out.below (by have := HZ.out; omega) hB)
          have O3 : Hid (wa.heap.size ≤ (wb.alloc (.cells #[.int .i64 0, .int .i64 0] 53)).heap.size) := HZ.out
          have HZ : Hid (wa.heap.size ≤ ((wb.alloc (.cells #[.int .i64 0, .int .i64 0] 53)).alloc (.cells #[.nilFunc] 62)).heap.size) := Nat.le_trans HZ.out hB.size
          have N4 := hid (N4.out.below hB)
          have hS := LaS.keep hHeld hB
          clear hB
          (try go_wp2_with fail)
          refine hK.out _ _ hS (fun hHeld => ?_)
          clear hK K
          (try simp only [Act.put, List.getElem_toArray, List.getElem_cons_succ, List.getElem_cons_zero, List.setIfInBounds_toArray, List.set_cons_zero, List.set_cons_succ])
          obtain ⟨b3, hb3⟩ : ∃ b, (wb.alloc (.cells #[.int .i64 0, .int .i64 0] 53)).heap.size = b := ⟨_, rfl⟩
          obtain ⟨b4, hb4⟩ : ∃ b, wb.heap.size = b := ⟨_, rfl⟩
          rw [hb3] at N3
          rw [hb4] at N4
          have hne : ¬ b4 = b3 := by have := O34.out; omega
          have p3 := O3.out
          have p4 := O4.out
          rw [hb3] at p3
          rw [hb4] at p4
          have o3 := O3.out
          have o4 := O4.out
          (try simp only [World.size_alloc] at hb3 hb4 o3 o4)
          (try rw [hb3])
          (try rw [hb4])
          obtain ⟨X, hX⟩ : ∃ X, ((wb.alloc (.cells #[.int .i64 0, .int .i64 0] 53)).alloc (.cells #[.nilFunc] 62)) = X := ⟨_, rfl⟩
          rw [hX] at N3 N4 HD HZ hHeld ⊢
          obtain ⟨g0, g1, -, g3⟩ := N3.out
          obtain ⟨⟨j0, j1⟩, ⟨j2, j3⟩, -, j5⟩ := N4.out
          have hS0 := hHeld
          refine wpAnyH_ready (rs := [6]) (by kernel_rfl) (by simp) ?_
          refine AllReadyH.cons rfl (fun K hK => ?_) AllReadyH.nil
          go_simp
          (try go_wp2_with fail)
          refine hK.out _ _ (LaS.set hHeld g3) (fun hHeld => ?_)
          clear hK K
          (try simp only [Act.put, List.getElem_toArray, List.getElem_cons_succ, List.getElem_cons_zero, List.setIfInBounds_toArray, List.set_cons_zero, List.set_cons_succ])
          have e0 : (X.setCell ⟨b3, 0, none⟩ (.func (.func 103) #[] #[.pointer (some ⟨x1, 0, none⟩), .pointer (some ⟨x2, 0, none⟩)])).cell? ⟨b4, 0, none⟩ = some (.int .i64 0) := by rw [World.cell?_setCell_other _ _ _ _ (by intro e; injection e with e _ _; exact hne e.symm)]; exact j0
          have e1 : (X.setCell ⟨b3, 0, none⟩ (.func (.func 103) #[] #[.pointer (some ⟨x1, 0, none⟩), .pointer (some ⟨x2, 0, none⟩)])).cell? ⟨b4, 1, none⟩ = some (.int .i64 0) := by rw [World.cell?_setCell_other _ _ _ _ (by intro e; injection e with e _ _; exact hne e.symm)]; exact j1
          have e2 : (X.setCell ⟨b3, 0, none⟩ (.func (.func 103) #[] #[.pointer (some ⟨x1, 0, none⟩), .pointer (some ⟨x2, 0, none⟩)])).frozen? ⟨b4, 0, none⟩ = false := by rw [frozen_set]; exact j2
          have e3 : (X.setCell ⟨b3, 0, none⟩ (.func (.func 103) #[] #[.pointer (some ⟨x1, 0, none⟩), .pointer (some ⟨x2, 0, none⟩)])).frozen? ⟨b4, 1, none⟩ = false := by rw [frozen_set]; exact j3
          refine wpAnyH_ready (rs := [7]) (by kernel_rfl) (by simp) ?_
          refine AllReadyH.cons rfl (fun K hK => ?_) AllReadyH.nil
          go_simp
          (try go_wp2_with fail)
          refine hK.out _ _ (LaS.set (LaS.set hHeld j5) j5) (fun hHeld => ?_)
          clear hK K
          (try simp only [Act.put, List.getElem_toArray, List.getElem_cons_succ, List.getElem_cons_zero, List.setIfInBounds_toArray, List.set_cons_zero, List.set_cons_succ])
          refine wpAnyH_done (by kernel_rfl) ?_ _
          have HH := hid (lpH_of hne g0 j0 j1 N3.out.l N4.out.l g3 j5 hS0 HD.out HZ.out (by omega) (by omega))
          go_wp2_with fail
          refine (cY.out _).mono ?_
          rintro e w5 ⟨rfl, hB⟩
          have H5 := hid (HH.out.below hB)
          clear hB HH HD HZ N3 N4 O3 O4 O34 e0 e1 e2 e3 hHeld hS0 g0 g1 j0 j1 j2 j3 hX hb3 hb4 o3 o4 p3 p4
          go_wp2
          go_ret
          exact ⟨⟨_, rfl, (H5.out.fin _ _).1⟩, (H5.out.fin _ _).2⟩
    · go_simp
      have hB := below_new (o := .cells #[.nilFunc] 62) (Below.refl wa.heap.size wa) (Nat.le_refl _)
      have N3 := hid (b1_new (w := w) (W := wa) .nilFunc 62 hHeld.2.2.2)
      have HD := hid (HD.out.below (by have := HZ.out; omega) hB)
      have O3 : Hid (wa.heap.size ≤ wa.heap.size) := HZ.out
      have HZ : Hid (wa.heap.size ≤ (wa.alloc (.cells #[.nilFunc] 62)).heap.size) := Nat.le_trans HZ.out hB.size
      have hS := LaS.keep hHeld hB
      clear hB
      (try go_wp2_with fail)
      refine hK.out _ _ hS (fun hHeld => ?_)
      clear hK K
      (try simp only [Act.put, List.getElem_toArray, List.getElem_cons_succ, List.getElem_cons_zero, List.setIfInBounds_toArray, List.set_cons_zero, List.set_cons_succ])
      refine wpAnyH_ready (rs := [3, 5]) (by kernel_rfl) (by simp) ?_
      refine AllReadyH.cons rfl (fun K hK => ?_) (AllReadyH.cons rfl (fun K hK => ?_) AllReadyH.nil)
      · go_simp
        refine (cS.out _).mono ?_
        rintro e wb ⟨rfl, hB⟩
        have HD := hid (HD.out.below (by have := HZ.out; omega) hB)
        have HZ : Hid (wa.heap.size ≤ wb.heap.size) := Nat.le_trans HZ.out hB.size
        have N3 := hid (N3.out.below hB)
        have hS := LaS.keep hHeld hB
        clear hB
        (try go_wp2_with fail)
        refine hK.out _ _ hS (fun hHeld => ?_)
        clear hK K
        (try simp only [Act.put, List.getElem_toArray, List.getElem_cons_succ, List.getElem_cons_zero, List.setIfInBounds_toArray, List.set_cons_zero, List.set_cons_succ])
        refine wpAnyH_ready (rs := [5]) (by kernel_rfl) (by simp) ?_
        refine AllReadyH.cons rfl (fun K hK => ?_) AllReadyH.nil
        · go_simp
          have hB := below_new (o := .cells #[.int .i64 0, .int .i64 0] 53) (Below.refl wb.heap.size wb) (Nat.le_refl _)
          have N4 := hid (b2_new (w := w) (W := wb) (.int .i64 0) (.int .i64 0) 53 hHeld.2.2.2)
          have O34 := hid N3.out.l
          have HD := hid (HD.out.below (by have := HZ.out; omega) hB)
          have O4 : Hid (wa.heap.size ≤ wb.heap.size) := HZ.out
          have HZ : Hid (wa.heap.size ≤ (wb.alloc (.cells #[.int .i64 0, .int .i64 0] 53)).heap.size) := Nat.le_trans HZ.out hB.size
          have N3 := hid (N3.out.below hB)
          have hS := LaS.keep hHeld hB
          clear hB
          (try go_wp2_with fail)
          refine hK.out _ _ hS (fun hHeld => ?_)
          clear hK K
          (try simp only [Act.put, List.getElem_toArray, List.getElem_cons_succ, List.getElem_cons_zero, List.setIfInBounds_toArray, List.set_cons_zero, List.set_cons_succ])
          obtain ⟨b3, hb3⟩ : ∃ b, wa.heap.size = b := ⟨_, rfl⟩
          obtain ⟨b4, hb4⟩ : ∃ b, wb.heap.size = b := ⟨_, rfl⟩
          rw [hb3] at N3
          rw [hb4] at N4
          have hne : ¬ b4 = b3 := by have := O34.out; omega
          have p3 := O3.out
          have p4 := O4.out
          rw [hb3] at p3
          rw [hb4] at p4
          have o3 := O3.out
          have o4 := O4.out
          (try simp only [World.size_alloc] at hb3 hb4 o3 o4)
          (try rw [hb4])
          (try rw [hb3])
          obtain ⟨X, hX⟩ : ∃ X, (wb.alloc (.cells #[.int .i64 0, .int .i64 0] 53)) = X := ⟨_, rfl⟩
          rw [hX] at N3 N4 HD HZ hHeld ⊢
          obtain ⟨g0, g1, -, g3⟩ := N3.out
          obtain ⟨⟨j0, j1⟩, ⟨j2, j3⟩, -, j5⟩ := N4.out
          have hS0 := hHeld
          refine wpAnyH_ready (rs := [6]) (by kernel_rfl) (by simp) ?_
          refine AllReadyH.cons rfl (fun K hK => ?_) AllReadyH.nil
          go_simp
          (try go_wp2_with fail)
          refine hK.out _ _ (LaS.set hHeld g3) (fun hHeld => ?_)
          clear hK K
          (try simp only [Act.put, List.getElem_toArray, List.getElem_cons_succ, List.getElem_cons_zero, List.setIfInBounds_toArray, List.set_cons_zero, List.set_cons_succ])
          have e0 : (X.setCell ⟨b3, 0, none⟩ (.func (.func 103) #[] #[.pointer (some ⟨x1, 0, none⟩), .pointer (some ⟨x2, 0, none⟩)])).cell? ⟨b4, 0, none⟩ = some (.int .i64 0) := by rw [World.cell?_setCell_other _ _ _ _ (by intro e; injection e with e _ _; exact hne e.symm)]; exact j0
          have e1 : (X.setCell ⟨b3, 0, none⟩ (.func (.func 103) #[] #[.pointer (some ⟨x1, 0, none⟩), .pointer (some ⟨x2, 0, none⟩)])).cell? ⟨b4, 1, none⟩ = some (.int .i64 0) := by rw [World.cell?_setCell_other _ _ _ _ (by intro e; injection e with e _ _; exact hne e.symm)]; exact j1
          have e2 : (X.setCell ⟨b3, 0, none⟩ (.func (.func 103) #[] #[.pointer (some ⟨x1, 0, none⟩), .pointer (some ⟨x2, 0, none⟩)])).frozen? ⟨b4, 0, none⟩ = false := by rw [frozen_set]; exact j2
          have e3 : (X.setCell ⟨b3, 0, none⟩ (.func (.func 103) #[] #[.pointer (some ⟨x1, 0, none⟩), .pointer (some ⟨x2, 0, none⟩)])).frozen? ⟨b4, 1, none⟩ = false := by rw [frozen_set]; exact j3
          refine wpAnyH_ready (rs := [7]) (by kernel_rfl) (by simp) ?_
          refine AllReadyH.cons rfl (fun K hK => ?_) AllReadyH.nil
          go_simp
          (try go_wp2_with fail)
          refine hK.out _ _ (LaS.set (LaS.set hHeld j5) j5) (fun hHeld => ?_)
          clear hK K
          (try simp only [Act.put, List.getElem_toArray, List.getElem_cons_succ, List.getElem_cons_zero, List.setIfInBounds_toArray, List.set_cons_zero, List.set_cons_succ])
          refine wpAnyH_done (by kernel_rfl) ?_ _
          have HH := hid (lpH_of hne g0 j0 j1 N3.out.l N4.out.l g3 j5 hS0 HD.out HZ.out (by omega) (by omega))
          go_wp2_with fail
          refine (cY.out _).mono ?_
          rintro e w5 ⟨rfl, hB⟩
          have H5 := hid (HH.out.below hB)
          clear hB HH HD HZ N3 N4 O3 O4 O34 e0 e1 e2 e3 hHeld hS0 g0 g1 j0 j1 j2 j3 hX hb3 hb4 o3 o4 p3 p4
          go_wp2
          go_ret
          exact ⟨⟨_, rfl, (H5.out.fin _ _).1⟩, (H5.out.fin _ _).2⟩
      · go_simp
        have hB := below_new (o := .cells #[.int .i64 0, .int .i64 0] 53) (Below.refl (wa.alloc (.cells #[.nilFunc] 62)).heap.size (wa.alloc (.cells #[.nilFunc] 62))) (Nat.le_refl _)
        have N4 := hid (b2_new (w := w) (W := (wa.alloc (.cells #[.nilFunc] 62))) (.int .i64 0) (.int .i64 0) 53 hHeld.2.2.2)
        have O34 := hid N3.out.l
        have HD := hid (HD.out.below (by have := HZ.out; omega) hB)
        have O4 : Hid (wa.heap.size ≤ (wa.alloc (.cells #[.nilFunc] 62)).heap.size) := HZ.out
        have HZ : Hid (wa.heap.size ≤ ((wa.alloc (.cells #[.nilFunc] 62)).alloc (.cells #[.int .i64 0, .int .i64 0] 53)).heap.size) := Nat.le_trans HZ.out hB.size
        have N3 := hid (N3.out.below hB)
        have hS := LaS.keep hHeld hB
        clear hB
        (try go_wp2_with fail)
        refine hK.out _ _ hS (fun hHeld => ?_)
        clear hK K
        (try simp only [Act.put, List.getElem_toArray, List.getElem_cons_succ, List.getElem_cons_zero, List.setIfInBounds_toArray, List.set_cons_zero, List.set_cons_succ])
        refine wpAnyH_ready (rs := [3]) (by kernel_rfl) (by simp) ?_
        refine AllReadyH.cons rfl (fun K hK => ?_) AllReadyH.nil
        · go_simp
          refine (cS.out _).mono ?_
          rintro e wb ⟨rfl, hB⟩
          have HD := hid (HD.out.below (by have := HZ.out; omega) hB)
          have HZ : Hid (wa.heap.size ≤ wb.heap.size) := Nat.le_trans HZ.out hB.size
          have N3 := hid (N3.out.below hB)
          have N4 := hid (N4.out.below hB)
          have hS := LaS.keep hHeld hB
          clear hB
          (try go_wp2_with fail)
          refine hK.out _ _ hS (fun hHeld => ?_)
          clear hK K
          (try simp only [Act.put, List.getElem_toArray, List.getElem_cons_succ, List.getElem_cons_zero, List.setIfInBounds_toArray, List.set_cons_zero, List.set_cons_succ])
          obtain ⟨b3, hb3⟩ : ∃ b, wa.heap.size = b := ⟨_, rfl⟩
          obtain ⟨b4, hb4⟩ : ∃ b, (wa.alloc (.cells #[.nilFunc] 62)).heap.size = b := ⟨_, rfl⟩
          rw [hb3] at N3
          rw [hb4] at N4
          have hne : ¬ b4 = b3 := by have := O34.out; omega
          have p3 := O3.out
          have p4 := O4.out
          rw [hb3] at p3
          rw [hb4] at p4
          have o3 := O3.out
          have o4 := O4.out
          (try simp only [World.size_alloc] at hb3 hb4 o3 o4)
          (try rw [hb4])
          (try rw [hb3])
          obtain ⟨X, hX⟩ : ∃ X, wb = X := ⟨_, rfl⟩
          rw [hX] at N3 N4 HD HZ hHeld ⊢
          obtain ⟨g0, g1, -, g3⟩ := N3.out
          obtain ⟨⟨j0, j1⟩, ⟨j2, j3⟩, -, j5⟩ := N4.out
          have hS0 := hHeld
          refine wpAnyH_ready (rs := [6]) (by kernel_rfl) (by simp) ?_
          refine AllReadyH.cons rfl (fun K hK => ?_) AllReadyH.nil
          go_simp
          (try go_wp2_with fail)
          refine hK.out _ _ (LaS.set hHeld g3) (fun hHeld => ?_)
          clear hK K
          (try simp only [Act.put, List.getElem_toArray, List.getElem_cons_succ, List.getElem_cons_zero, List.setIfInBounds_toArray, List.set_cons_zero, List.set_cons_succ])
          have e0 : (X.setCell ⟨b3, 0, none⟩ (.func (.func 103) #[] #[.pointer (some ⟨x1, 0, none⟩), .pointer (some ⟨x2, 0, none⟩)])).cell? ⟨b4, 0, none⟩ = some (.int .i64 0) := by rw [World.cell?_setCell_other _ _ _ _ (by intro e; injection e with e _ _; exact hne e.symm)]; exact j0
          have e1 : (X.setCell ⟨b3, 0, none⟩ (.func (.func 103) #[] #[.pointer (some ⟨x1, 0, none⟩), .pointer (some ⟨x2, 0, none⟩)])).cell? ⟨b4, 1, none⟩ = some (.int .i64 0) := by rw [World.cell?_setCell_other _ _ _ _ (by intro e; injection e with e _ _; exact hne e.symm)]; exact j1
          have e2 : (X.setCell ⟨b3, 0, none⟩ (.func (.func 103) #[] #[.pointer (some ⟨x1, 0, none⟩), .pointer (some ⟨x2, 0, none⟩)])).frozen? ⟨b4, 0, none⟩ = false := by rw [frozen_set]; exact j2
          have e3 : (X.setCell ⟨b3, 0, none⟩ (.func (.func 103) #[] #[.pointer (some ⟨x1, 0, none⟩), .pointer (some ⟨x2, 0, none⟩)])).frozen? ⟨b4, 1, none⟩ = false := by rw [frozen_set]; exact j3
          refine wpAnyH_ready (rs := [7]) (by kernel_rfl) (by simp) ?_
          refine AllReadyH.cons rfl (fun K hK => ?_) AllReadyH.nil
          go_simp
          (try go_wp2_with fail)
          refine hK.out _ _ (LaS.set (LaS.set hHeld j5) j5) (fun hHeld => ?_)
          clear hK K
          (try simp only [Act.put, List.getElem_toArray, List.getElem_cons_succ, List.getElem_cons_zero, List.setIfInBounds_toArray, List.set_cons_zero, List.set_cons_succ])
          refine wpAnyH_done (by kernel_rfl) ?_ _
          have HH := hid (lpH_of hne g0 j0 j1 N3.out.l N4.out.l g3 j5 hS0 HD.out HZ.out (by omega) (by omega))
          go_wp2_with fail
          refine (cY.out _).mono ?_
          rintro e w5 ⟨rfl, hB⟩
          have H5 := hid (HH.out.below hB)
          clear hB HH HD HZ N3 N4 O3 O4 O34 e0 e1 e2 e3 hHeld hS0 g0 g1 j0 j1 j2 j3 hX hb3 hb4 o3 o4 p3 p4
          go_wp2
          go_ret
          exact ⟨⟨_, rfl, (H5.out.fin _ _).1⟩, (H5.out.fin _ _).2⟩
    · go_simp
      have hB := below_new (o := .cells #[.int .i64 0, .int .i64 0] 53) (Below.refl wa.heap.size wa) (Nat.le_refl _)
      have N4 := hid (b2_new (w := w) (W := wa) (.int .i64 0) (.int .i64 0) 53 hHeld.2.2.2)
      have HD := hid (HD.out.below (by have := HZ.out; omega) hB)
      have O4 : Hid (wa.heap.size ≤ wa.heap.size) := HZ.out
      have HZ : Hid (wa.heap.size ≤ (wa.alloc (.cells #[.int .i64 0, .int .i64 0] 53)).heap.size) := Nat.le_trans HZ.out hB.size
      have hS := LaS.keep hHeld hB
      clear hB
      (try go_wp2_with fail)
      refine hK.out _ _ hS (fun hHeld => ?_)
      clear hK K
      (try simp only [Act.put, List.getElem_toArray, List.getElem_cons_succ, List.getElem_cons_zero, List.setIfInBounds_toArray, List.set_cons_zero, List.set_cons_succ])
      refine wpAnyH_ready (rs := [3, 4]) (by kernel_rfl) (by simp) ?_
      refine AllReadyH.cons rfl (fun K hK => ?_) (AllReadyH.cons rfl (fun K hK => ?_) AllReadyH.nil)
      · go_simp
        refine (cS.out _).mono ?_
        rintro e wb ⟨rfl, hB⟩
        have HD := hid (HD.out.below (by have := HZ.out; omega) hB)
        have HZ : Hid (wa.heap.size ≤ wb.heap.size) := Nat.le_trans HZ.out hB.size
        have N4 := hid (N4.out.below hB)
        have hS := LaS.keep hHeld hB
        clear hB
        (try go_wp2_with fail)
        refine hK.out _ _ hS (fun hHeld => ?_)
        clear hK K
        (try simp only [Act.put, List.getElem_toArray, List.getElem_cons_succ, List.getElem_cons_zero, List.setIfInBounds_toArray, List.set_cons_zero, List.set_cons_succ])
        refine wpAnyH_ready (rs := [4]) (by kernel_rfl) (by simp) ?_
        refine AllReadyH.cons rfl (fun K hK => ?_) AllReadyH.nil
        · go_simp
          have hB := below_new (o := .cells #[.nilFunc] 62) (Below.refl wb.heap.size wb) (Nat.le_refl _)
          have N3 := hid (b1_new (w := w) (W := wb) .nilFunc 62 hHeld.2.2.2)
          have O34 := hid N4.out.l
          have HD := hid (HD.out.below (by have := HZ.out; omega) hB)
          have O3 : Hid (wa.heap.size ≤ wb.heap.size) := HZ.out
          have HZ : Hid (wa.heap.size ≤ (wb.alloc (.cells #[.nilFunc] 62)).heap.size) := Nat.le_trans HZ.out hB.size
          have N4 := hid (N4.out.below hB)
          have hS := LaS.keep hHeld hB
          clear hB
          (try go_wp2_with fail)
          refine hK.out _ _ hS (fun hHeld => ?_)
          clear hK K
          (try simp only [Act.put, List.getElem_toArray, List.getElem_cons_succ, List.getElem_cons_zero, List.setIfInBounds_toArray, List.set_cons_zero, List.set_cons_succ])
          obtain ⟨b3, hb3⟩ : ∃ b, wb.heap.size = b := ⟨_, rfl⟩
          obtain ⟨b4, hb4⟩ : ∃ b, wa.heap.size = b := ⟨_, rfl⟩
          rw [hb3] at N3
          rw [hb4] at N4
          have hne : ¬ b4 = b3 := by have := O34.out; omega
          have p3 := O3.out
          have p4 := O4.out
          rw [hb3] at p3
          rw [hb4] at p4
          have o3 := O3.out
          have o4 := O4.out
          (try simp only [World.size_alloc] at hb3 hb4 o3 o4)
          (try rw [hb3])
          (try rw [hb4])
          obtain ⟨X, hX⟩ : ∃ X, (wb.alloc (.cells #[.nilFunc] 62)) = X := ⟨_, rfl⟩
          rw [hX] at N3 N4 HD HZ hHeld ⊢
          obtain ⟨g0, g1, -, g3⟩ := N3.out
          obtain ⟨⟨j0, j1⟩, ⟨j2, j3⟩, -, j5⟩ := N4.out
          have hS0 := hHeld
          refine wpAnyH_ready (rs := [6]) (by kernel_rfl) (by simp) ?_
          refine AllReadyH.cons rfl (fun K hK => ?_) AllReadyH.nil
          go_simp
          (try go_wp2_with fail)
          refine hK.out _ _ (LaS.set hHeld g3) (fun hHeld => ?_)
          clear hK K
          (try simp only [Act.put, List.getElem_toArray, List.getElem_cons_succ, List.getElem_cons_zero, List.setIfInBounds_toArray, List.set_cons_zero, List.set_cons_succ])
          have e0 : (X.setCell ⟨b3, 0, none⟩ (.func (.func 103) #[] #[.pointer (some ⟨x1, 0, none⟩), .pointer (some ⟨x2, 0, none⟩)])).cell? ⟨b4, 0, none⟩ = some (.int .i64 0) := by rw [World.cell?_setCell_other _ _ _ _ (by intro e; injection e with e _ _; exact hne e.symm)]; exact j0
          have e1 : (X.setCell ⟨b3, 0, none⟩ (.func (.func 103) #[] #[.pointer (some ⟨x1, 0, none⟩), .pointer (some ⟨x2, 0, none⟩)])).cell? ⟨b4, 1, none⟩ = some (.int .i64 0) := by rw [World.cell?_setCell_other _ _ _ _ (by intro e; injection e with e _ _; exact hne e.symm)]; exact j1
          have e2 : (X.setCell ⟨b3, 0, none⟩ (.func (.func 103) #[] #[.pointer (some ⟨x1, 0, none⟩), .pointer (some ⟨x2, 0, none⟩)])).frozen? ⟨b4, 0, none⟩ = false := by rw [frozen_set]; exact j2
          have e3 : (X.setCell ⟨b3, 0, none⟩ (.func (.func 103) #[] #[.pointer (some ⟨x1, 0, none⟩), .pointer (some ⟨x2, 0, none⟩)])).frozen? ⟨b4, 1, none⟩ = false := by rw [frozen_set]; exact j3
          refine wpAnyH_ready (rs := [7]) (by kernel_rfl) (by simp) ?_
          refine AllReadyH.cons rfl (fun K hK => ?_) AllReadyH.nil
          go_simp
          (try go_wp2_with fail)
          refine hK.out _ _ (LaS.set (LaS.set hHeld j5) j5) (fun hHeld => ?_)
          clear hK K
          (try simp only [Act.put, List.getElem_toArray, List.getElem_cons_succ, List.getElem_cons_zero, List.setIfInBounds_toArray, List.set_cons_zero, List.set_cons_succ])
          refine wpAnyH_done (by kernel_rfl) ?_ _
          have HH := hid (lpH_of hne g0 j0 j1 N3.out.l N4.out.l g3 j5 hS0 HD.out HZ.out (by omega) (by omega))
          go_wp2_with fail
          refine (cY.out _).mono ?_
          rintro e w5 ⟨rfl, hB⟩
          have H5 := hid (HH.out.below hB)
          clear hB HH HD HZ N3 N4 O3 O4 O34 e0 e1 e2 e3 hHeld hS0 g0 g1 j0 j1 j2 j3 hX hb3 hb4 o3 o4 p3 p4
          go_wp2
          go_ret
          exact ⟨⟨_, rfl, (H5.out.fin _ _).1⟩, (H5.out.fin _ _).2⟩
      · go_simp
        have hB := below_new (o := .cells #[.nilFunc] 62) (Below.refl (wa.alloc (.cells #[.int .i64 0, .int .i64 0] 53)).heap.size (wa.alloc (.cells #[.int .i64 0, .int .i64 0] 53))) (Nat.le_refl _)
        have N3 := hid (b1_new (w := w) (W := (wa.alloc (.cells #[.int .i64 0, .int .i64 0] 53))) .nilFunc 62 hHeld.2.2.2)
        have O34 := hid N4.out.l
        have HD := hid (HD.out.below (by have := HZ.out; omega) hB)
        have O3 : Hid (wa.heap.size ≤ (wa.alloc (.cells #[.int .i64 0, .int .i64 0] 53)).heap.size) := HZ.out
        have HZ : Hid (wa.heap.size ≤ ((wa.alloc (.cells #[.int .i64 0, .int .i64 0] 53)).alloc (.cells #[.nilFunc] 62)).heap.size) := Nat.le_trans HZ.out hB.size
        have N4 := hid (N4.out.below hB)
        have hS := LaS.keep hHeld hB
        clear hB
        (try go_wp2_with fail)
        refine hK.out _ _ hS (fun hHeld => ?_)
        clear hK K
        (try simp only [Act.put, List.getElem_toArray, List.getElem_cons_succ, List.getElem_cons_zero, List.setIfInBounds_toArray, List.set_cons_zero, List.set_cons_succ])
        refine wpAnyH_ready (rs := [3]) (by kernel_rfl) (by simp) ?_
        refine AllReadyH.cons rfl (fun K hK => ?_) AllReadyH.nil
        · go_simp
          refine (cS.out _).mono ?_
          rintro e wb ⟨rfl, hB⟩
          have HD := hid (HD.out.below (by have := HZ.out; omega) hB)
          have HZ : Hid (wa.heap.size ≤ wb.heap.size) := Nat.le_trans HZ.out hB.size
          have N3 := hid (N3.out.below hB)
          have N4 := hid (N4.out.below hB)
          have hS := LaS.keep hHeld hB
          clear hB
          (try go_wp2_with fail)
          refine hK.out _ _ hS (fun hHeld => ?_)
          clear hK K
          (try simp only [Act.put, List.getElem_toArray, List.getElem_cons_succ, List.getElem_cons_zero, List.setIfInBounds_toArray, List.set_cons_zero, List.set_cons_succ])
          obtain ⟨b3, hb3⟩ : ∃ b, (wa.alloc (.cells #[.int .i64 0, .int .i64 0] 53)).heap.size = b := ⟨_, rfl⟩
          obtain ⟨b4, hb4⟩ : ∃ b, wa.heap.size = b := ⟨_, rfl⟩
          rw [hb3] at N3
          rw [hb4] at N4
          have hne : ¬ b4 = b3 := by have := O34.out; omega
          have p3 := O3.out
          have p4 := O4.out
          rw [hb3] at p3
          rw [hb4] at p4
          have o3 := O3.out
          have o4 := O4.out
          (try simp only [World.size_alloc] at hb3 hb4 o3 o4)
          (try rw [hb3])
          (try rw [hb4])
          obtain ⟨X, hX⟩ : ∃ X, wb = X := ⟨_, rfl⟩
          rw [hX] at N3 N4 HD HZ hHeld ⊢
          obtain ⟨g0, g1, -, g3⟩ := N3.out
          obtain ⟨⟨j0, j1⟩, ⟨j2, j3⟩, -, j5⟩ := N4.out
          have hS0 := hHeld
          refine wpAnyH_ready (rs := [6]) (by kernel_rfl) (by simp) ?_
          refine AllReadyH.cons rfl (fun K hK => ?_) AllReadyH.nil
          go_simp
          (try go_wp2_with fail)
          refine hK.out _ _ (LaS.set hHeld g3) (fun hHeld => ?_)
          clear hK K
          (try simp only [Act.put, List.getElem_toArray, List.getElem_cons_succ, List.getElem_cons_zero, List.setIfInBounds_toArray, List.set_cons_zero, List.set_cons_succ])
          have e0 : (X.setCell ⟨b3, 0, none⟩ (.func (.func 103) #[] #[.pointer (some ⟨x1, 0, none⟩), .pointer (some ⟨x2, 0, none⟩)])).cell? ⟨b4, 0, none⟩ = some (.int .i64 0) := by rw [World.cell?_setCell_other _ _ _ _ (by intro e; injection e with e _ _; exact hne e.symm)]; exact j0
          have e1 : (X.setCell ⟨b3, 0, none⟩ (.func (.func 103) #[] #[.pointer (some ⟨x1, 0, none⟩), .pointer (some ⟨x2, 0, none⟩)])).cell? ⟨b4, 1, none⟩ = some (.int .i64 0) := by rw [World.cell?_setCell_other _ _ _ _ (by intro e; injection e with e _ _; exact hne e.symm)]; exact j1
          have e2 : (X.setCell ⟨b3, 0, none⟩ (.func (.func 103) #[] #[.pointer (some ⟨x1, 0, none⟩), .pointer (some ⟨x2, 0, none⟩)])).frozen? ⟨b4, 0, none⟩ = false := by rw [frozen_set]; exact j2
          have e3 : (X.setCell ⟨b3, 0, none⟩ (.func (.func 103) #[] #[.pointer (some ⟨x1, 0, none⟩), .pointer (some ⟨x2, 0, none⟩)])).frozen? ⟨b4, 1, none⟩ = false := by rw [frozen_set]; exact j3
          refine wpAnyH_ready (rs := [7]) (by kernel_rfl) (by simp) ?_
          refine AllReadyH.cons rfl (fun K hK => ?_) AllReadyH.nil
          go_simp
          (try go_wp2_with fail)
          refine hK.out _ _ (LaS.set (LaS.set hHeld j5) j5) (fun hHeld => ?_)
          clear hK K
          (try simp only [Act.put, List.getElem_toArray, List.getElem_cons_succ, List.getElem_cons_zero, List.setIfInBounds_toArray, List.set_cons_zero, List.set_cons_succ])
          refine wpAnyH_done (by kernel_rfl) ?_ _
          have HH := hid (lpH_of hne g0 j0 j1 N3.out.l N4.out.l g3 j5 hS0 HD.out HZ.out (by omega) (by omega))
          go_wp2_with fail
          refine (cY.out _).mono ?_
          rintro e w5 ⟨rfl, hB⟩
          have H5 := hid (HH.out.below hB)
          clear hB HH HD HZ N3 N4 O3 O4 O34 e0 e1 e2 e3 hHeld hS0 g0 g1 j0 j1 j2 j3 hX hb3 hb4 o3 o4 p3 p4
          go_wp2
          go_ret
          exact ⟨⟨_, rfl, (H5.out.fin _ _).1⟩, (H5.out.fin _ _).2⟩
  · go_simp
    have hB := below_new (o := .cells #[.nilFunc] 62) (Below.refl (w.alloc (.cells (clList c).toArray 28)).drew.heap.size (w.alloc (.cells (clList c).toArray 28)).drew) (Nat.le_refl _)
    have N3 := hid (b1_new (w := w) (W := (w.alloc (.cells (clList c).toArray 28)).drew) .nilFunc 62 hHeld.2.2.2)
    have hS := LaS.keep hHeld hB
    clear hB
    (try go_wp2_with fail)
    refine hK.out _ _ hS (fun hHeld => ?_)
    clear hK K
    (try simp only [Act.put, List.getElem_toArray, List.getElem_cons_succ, List.getElem_cons_zero, List.setIfInBounds_toArray, List.set_cons_zero, List.set_cons_succ])
    refine wpAnyH_ready (rs := [1, 5]) (by kernel_rfl) (by simp) ?_
    refine AllReadyH.cons rfl (fun K hK => ?_) (AllReadyH.cons rfl (fun K hK => ?_) AllReadyH.nil)
    · go_simp
      refine (cD.out _ (by assumption)).mono ?_
      rintro e wa ⟨⟨x1, x2, rfl, hdc⟩, hB⟩
      have HD := hid hdc
      have HZ : Hid (wa.heap.size ≤ wa.heap.size) := Nat.le_refl _
      have O3 := hid N3.out.l
      have N3 := hid (N3.out.below hB)
      have hS := LaS.keep hHeld hB
      clear hB
      (try go_wp2_with fail)
      refine hK.out _ _ hS (fun hHeld => ?_)
      clear hK K
      (try simp only [Act.put, List.getElem_toArray, List.getElem_cons_succ, List.getElem_cons_zero, List.setIfInBounds_toArray, List.set_cons_zero, List.set_cons_succ])
      refine wpAnyH_ready (rs := [3, 5]) (by kernel_rfl) (by simp) ?_
      refine AllReadyH.cons rfl (fun K hK => ?_) (AllReadyH.cons rfl (fun K hK => ?_) AllReadyH.nil)
      · go_simp
        refine (cS.out _).mono ?_
        rintro e wb ⟨rfl, hB⟩
        have HD := hid (HD.out.below (by have := HZ.out; omega) hB)
        have HZ : Hid (wa.heap.size ≤ wb.heap.size) := Nat.le_trans HZ.out hB.size
        have N3 := hid (N3.out.below hB)
        have hS := LaS.keep hHeld hB
        clear hB
        (try go_wp2_with fail)
        refine hK.out _ _ hS (fun hHeld => ?_)
        clear hK K
        (try simp only [Act.put, List.getElem_toArray, List.getElem_cons_succ, List.getElem_cons_zero, List.setIfInBounds_toArray, List.set_cons_zero, List.set_cons_succ])
        refine wpAnyH_ready (rs := [5]) (by kernel_rfl) (by simp) ?_
        refine AllReadyH.cons rfl (fun K hK => ?_) AllReadyH.nil
        · go_simp
          have hB := below_new (o := .cells #[.int .i64 0, .int .i64 0] 53) (Below.refl wb.heap.size wb) (Nat.le_refl _)
          have N4 := hid (b2_new (w := w) (W := wb) (.int .i64 0) (.int .i64 0) 53 hHeld.2.2.2)
          have O34 := hid N3.out.l
          have HD := hid (HD.out.below (by have := HZ.out; omega) hB)
          have O4 : Hid (wa.heap.size ≤ wb.heap.size) := HZ.out
          have HZ : Hid (wa.heap.size ≤ (wb.alloc (.cells #[.int .i64 0, .int .i64 0] 53)).heap.size) := Nat.le_trans HZ.out hB.size
          have N3 := hid (N3.out.below hB)
          have hS := LaS.keep hHeld hB
          clear hB
          (try go_wp2_with fail)
          refine hK.out _ _ hS (fun hHeld => ?_)
          clear hK K
          (try simp only [Act.put, List.getElem_toArray, List.getElem_cons_succ, List.getElem_cons_zero, List.setIfInBounds_toArray, List.set_cons_zero, List.set_cons_succ])
          obtain ⟨b3, hb3⟩ : ∃ b, (w.alloc (.cells (clList c).toArray 28)).drew.heap.size = b := ⟨_, rfl⟩
          obtain ⟨b4, hb4⟩ : ∃ b, wb.heap.size = b := ⟨_, rfl⟩
          rw [hb3] at N3
          rw [hb4] at N4
          have hne : ¬ b4 = b3 := by have := O34.out; omega
          have p3 := O3.out
          have p4 := O4.out
          rw [hb3] at p3
          rw [hb4] at p4
          have o3 := O3.out
          have o4 := O4.out
          (try simp only [World.size_alloc, World.size_drew] at hb3 hb4 o3 o4)
          (try rw [hb4])
          (try rw [hb3])
          obtain ⟨X, hX⟩ : ∃ X, (wb.alloc (.cells #[.int .i64 0, .int .i64 0] 53)) = X := ⟨_, rfl⟩
          rw [hX] at N3 N4 HD HZ hHeld ⊢
          obtain ⟨g0, g1, -, g3⟩ := N3.out
          obtain ⟨⟨j0, j1⟩, ⟨j2, j3⟩, -, j5⟩ := N4.out
          have hS0 := hHeld
          refine wpAnyH_ready (rs := [6]) (by kernel_rfl) (by simp) ?_
          refine AllReadyH.cons rfl (fun K hK => ?_) AllReadyH.nil
          go_simp
          (try go_wp2_with fail)
          refine hK.out _ _ (LaS.set hHeld g3) (fun hHeld => ?_)
          clear hK K
          (try simp only [Act.put, List.getElem_toArray, List.getElem_cons_succ, List.getElem_cons_zero, List.setIfInBounds_toArray, List.set_cons_zero, List.set_cons_succ])
          have e0 : (X.setCell ⟨b3, 0, none⟩ (.func (.func 103) #[] #[.pointer (some ⟨x1, 0, none⟩), .pointer (some ⟨x2, 0, none⟩)])).cell? ⟨b4, 0, none⟩ = some (.int .i64 0) := by rw [World.cell?_setCell_other _ _ _ _ (by intro e; injection e with e _ _; exact hne e.symm)]; exact j0
          have e1 : (X.setCell ⟨b3, 0, none⟩ (.func (.func 103) #[] #[.pointer (some ⟨x1, 0, none⟩), .pointer (some ⟨x2, 0, none⟩)])).cell? ⟨b4, 1, none⟩ = some (.int .i64 0) := by rw [World.cell?_setCell_other _ _ _ _ (by intro e; injection e with e _ _; exact hne e.symm)]; exact j1
          have e2 : (X.setCell ⟨b3, 0, none⟩ (.func (.func 103) #[] #[.pointer (some ⟨x1, 0, none⟩), .pointer (some ⟨x2, 0, none⟩)])).frozen? ⟨b4, 0, none⟩ = false := by rw [frozen_set]; exact j2
          have e3 : (X.setCell ⟨b3, 0, none⟩ (.func (.func 103) #[] #[.pointer (some ⟨x1, 0, none⟩), .pointer (some ⟨x2, 0, none⟩)])).frozen? ⟨b4, 1, none⟩ = false := by rw [frozen_set]; exact j3
          refine wpAnyH_ready (rs := [7]) (by kernel_rfl) (by simp) ?_
          refine AllReadyH.cons rfl (fun K hK => ?_) AllReadyH.nil
          go_simp
          (try go_wp2_with fail)
          refine hK.out _ _ (LaS.set (LaS.set hHeld j5) j5) (fun hHeld => ?_)
          clear hK K
          (try simp only [Act.put, List.getElem_toArray, List.getElem_cons_succ, List.getElem_cons_zero, List.setIfInBounds_toArray, List.set_cons_zero, List.set_cons_succ])
          refine wpAnyH_done (by kernel_rfl) ?_ _
          have HH := hid (lpH_of hne g0 j0 j1 N3.out.l N4.out.l g3 j5 hS0 HD.out HZ.out (.inl p3) (by omega))
          go_wp2_with fail
          refine (cY.out _).mono ?_
          rintro e w5 ⟨rfl, hB⟩
          have H5 := hid (HH.out.below hB)
          clear hB HH HD HZ N3 N4 O3 O4 O34 e0 e1 e2 e3 hHeld hS0 g0 g1 j0 j1 j2 j3 hX hb3 hb4 o3 o4 p3 p4
          go_wp2
          go_ret
          exact ⟨⟨_, rfl, (H5.out.fin _ _).1⟩, (H5.out.fin _ _).2⟩
      · go_simp
        have hB := below_new (o := .cells #[.int .i64 0, .int .i64 0] 53) (Below.refl wa.heap.size wa) (Nat.le_refl _)
        have N4 := hid (b2_new (w := w) (W := wa) (.int .i64 0) (.int .i64 0) 53 hHeld.2.2.2)
        have O34 := hid N3.out.l
        have HD := hid (HD.out.below (by have := HZ.out; omega) hB)
        have O4 : Hid (wa.heap.size ≤ wa.heap.size) := HZ.out
        have HZ : Hid (wa.heap.size ≤ (wa.alloc (.cells #[.int .i64 0, .int .i64 0] 53)).heap.size) := Nat.le_trans HZ.out hB.size
        have N3 := hid (N3.out.below hB)
        have hS := LaS.keep hHeld hB
        clear hB
        (try go_wp2_with fail)
        refine hK.out _ _ hS (fun hHeld => ?_)
        clear hK K
        (try simp only [Act.put, List.getElem_toArray, List.getElem_cons_succ, List.getElem_cons_zero, List.setIfInBounds_toArray, List.set_cons_zero, List.set_cons_succ])
        refine wpAnyH_ready (rs := [3]) (by kernel_rfl) (by simp) ?_
        refine AllReadyH.cons rfl (fun K hK => ?_) AllReadyH.nil
        · go_simp
          refine (cS.out _).mono ?_
          rintro e wb ⟨rfl, hB⟩
          have HD := hid (HD.out.below (by have := HZ.out; omega) hB)
          have HZ : Hid (wa.heap.size ≤ wb.heap.size) := Nat.le_trans HZ.out hB.size
          have N3 := hid (N3.out.below hB)
          have N4 := hid (N4.out.below hB)
          have hS := LaS.keep hHeld hB
          clear hB
          (try go_wp2_with fail)
          refine hK.out _ _ hS (fun hHeld => ?_)
          clear hK K
          (try simp only [Act.put, List.getElem_toArray, List.getElem_cons_succ, List.getElem_cons_zero, List.setIfInBounds_toArray, List.set_cons_zero, List.set_cons_succ])
          obtain ⟨b3, hb3⟩ : ∃ b, (w.alloc (.cells (clList c).toArray 28)).drew.heap.size = b := ⟨_, rfl⟩
          obtain ⟨b4, hb4⟩ : ∃ b, wa.heap.size = b := ⟨_, rfl⟩
          rw [hb3] at N3
          rw [hb4] at N4
          have hne : ¬ b4 = b3 := by have := O34.out; omega
          have p3 := O3.out
          have p4 := O4.out
          rw [hb3] at p3
          rw [hb4] at p4
          have o3 := O3.out
          have o4 := O4.out
          (try simp only [World.size_alloc, World.size_drew] at hb3 hb4 o3 o4)
          (try rw [hb4])
          (try rw [hb3])
          obtain ⟨X, hX⟩ : ∃ X, wb = X := ⟨_, rfl⟩
          rw [hX] at N3 N4 HD HZ hHeld ⊢
          obtain ⟨g0, g1, -, g3⟩ := N3.out
          obtain ⟨⟨j0, j1⟩, ⟨j2, j3⟩, -, j5⟩ := N4.out
          have hS0 := hHeld
          refine wpAnyH_ready (rs := [6]) (by kernel_rfl) (by simp) ?_
          refine AllReadyH.cons rfl (fun K hK => ?_) AllReadyH.nil
          go_simp
          (try go_wp2_with fail)
          refine hK.out _ _ (LaS.set hHeld g3) (fun hHeld => ?_)
          clear hK K
          (try simp only [Act.put, List.getElem_toArray, List.getElem_cons_succ, List.getElem_cons_zero, List.setIfInBounds_toArray, List.set_cons_zero, List.set_cons_succ])
          have e0 : (X.setCell ⟨b3, 0, none⟩ (.func (.func 103) #[] #[.pointer (some ⟨x1, 0, none⟩), .pointer (some ⟨x2, 0, none⟩)])).cell? ⟨b4, 0, none⟩ = some (.int .i64 0) := by rw [World.cell?_setCell_other _ _ _ _ (by intro e; injection e with e _ _; exact hne e.symm)]; exact j0
          have e1 : (X.setCell ⟨b3, 0, none⟩ (.func (.func 103) #[] #[.pointer (some ⟨x1, 0, none⟩), .pointer (some ⟨x2, 0, none⟩)])).cell? ⟨b4, 1, none⟩ = some (.int .i64 0) := by rw [World.cell?_setCell_other _ _ _ _ (by intro e; injection e with e _ _; exact hne e.symm)]; exact j1
          have e2 : (X.setCell ⟨b3, 0, none⟩ (.func (.func 103) #[] #[.pointer (some ⟨x1, 0, none⟩), .pointer (some ⟨x2, 0, none⟩)])).frozen? ⟨b4, 0, none⟩ = false := by rw [frozen_set]; exact j2
          have e3 : (X.setCell ⟨b3, 0, none⟩ (.func (.func 103) #[] #[.pointer (some ⟨x1, 0, none⟩), .pointer (some ⟨x2, 0, none⟩)])).frozen? ⟨b4, 1, none⟩ = false := by rw [frozen_set]; exact j3
          refine wpAnyH_ready (rs := [7]) (by kernel_rfl) (by simp) ?_
          refine AllReadyH.cons rfl (fun K hK => ?_) AllReadyH.nil
          go_simp
          (try go_wp2_with fail)
          refine hK.out _ _ (LaS.set (LaS.set hHeld j5) j5) (fun hHeld => ?_)
          clear hK K
          (try simp only [Act.put, List.getElem_toArray, List.getElem_cons_succ, List.getElem_cons_zero, List.setIfInBounds_toArray, List.set_cons_zero, List.set_cons_succ])
          refine wpAnyH_done (by kernel_rfl) ?_ _
          have HH := hid (lpH_of hne g0 j0 j1 N3.out.l N4.out.l g3 j5 hS0 HD.out HZ.out (.inl p3) (by omega))
          go_wp2_with fail
          refine (cY.out _).mono ?_
          rintro e w5 ⟨rfl, hB⟩
          have H5 := hid (HH.out.below hB)
          clear hB HH HD HZ N3 N4 O3 O4 O34 e0 e1 e2 e3 hHeld hS0 g0 g1 j0 j1 j2 j3 hX hb3 hb4 o3 o4 p3 p4
          go_wp2
          go_ret
          exact ⟨⟨_, rfl, (H5.out.fin _ _).1⟩, (H5.out.fin _ _).2⟩
    · go_simp
      have hB := below_new (o := .cells #[.int .i64 0, .int .i64 0] 53) (Below.refl ((w.alloc (.cells (clList c).toArray 28)).drew.alloc (.cells #[.nilFunc] 62)).heap.size ((w.alloc (.cells (clList c).toArray 28)).drew.alloc (.cells #[.nilFunc] 62))) (Nat.le_refl _)
      have N4 := hid (b2_new (w := w) (W := ((w.alloc (.cells (clList c).toArray 28)).drew.alloc (.cells #[.nilFunc] 62))) (.int .i64 0) (.int .i64 0) 53 hHeld.2.2.2)
      have O34 := hid N3.out.l
      have N3 := hid (N3.out.below hB)
      have hS := LaS.keep hHeld hB
      clear hB
      (try go_wp2_with fail)
      refine hK.out _ _ hS (fun hHeld => ?_)
      clear hK K
      (try simp only [Act.put, List.getElem_toArray, List.getElem_cons_succ, List.getElem_cons_zero, List.setIfInBounds_toArray, List.set_cons_zero, List.set_cons_succ])
      refine wpAnyH_ready (rs := [1]) (by kernel_rfl) (by simp) ?_
      refine AllReadyH.cons rfl (fun K hK => ?_) AllReadyH.nil
      · go_simp
        refine (cD.out _ (by assumption)).mono ?_
        rintro e wa ⟨⟨x1, x2, rfl, hdc⟩, hB⟩
        have HD := hid hdc
        have HZ : Hid (wa.heap.size ≤ wa.heap.size) := Nat.le_refl _
        have O3 := hid N3.out.l
        have O4 := hid N4.out.l
        have N3 := hid (N3.out.below hB)
        have N4 := hid (N4.out.below hB)
        have hS := LaS.keep hHeld hB
        clear hB
        (try go_wp2_with fail)
        refine hK.out _ _ hS (fun hHeld => ?_)
        clear hK K
        (try simp only [Act.put, List.getElem_toArray, List.getElem_cons_succ, List.getElem_cons_zero, List.setIfInBounds_toArray, List.set_cons_zero, List.set_cons_succ])
        refine wpAnyH_ready (rs := [3]) (by kernel_rfl) (by simp) ?_
        refine AllReadyH.cons rfl (fun K hK => ?_) AllReadyH.nil
        · go_simp
          refine (cS.out _).mono ?_
          rintro e wb ⟨rfl, hB⟩
          have HD := hid (HD.out.below (by have := HZ.out; omega) hB)
          have HZ : Hid (wa.heap.size ≤ wb.heap.size) := Nat.le_trans HZ.out hB.size
          have N3 := hid (N3.out.below hB)
          have N4 := hid (N4.out.below hB)
          have hS := LaS.keep hHeld hB
          clear hB
          (try go_wp2_with fail)
          refine hK.out _ _ hS (fun hHeld => ?_)
          clear hK K
          (try simp only [Act.put, List.getElem_toArray, List.getElem_cons_succ, List.getElem_cons_zero, List.setIfInBounds_toArray, List.set_cons_zero, List.set_cons_succ])
          obtain ⟨b3, hb3⟩ : ∃ b, (w.alloc (.cells (clList c).toArray 28)).drew.heap.size = b := ⟨_, rfl⟩
          obtain ⟨b4, hb4⟩ : ∃ b, ((w.alloc (.cells (clList c).toArray 28)).drew.alloc (.cells #[.nilFunc] 62)).heap.size = b := ⟨_, rfl⟩
          rw [hb3] at N3
          rw [hb4] at N4
          have hne : ¬ b4 = b3 := by have := O34.out; omega
          have p3 := O3.out
          have p4 := O4.out
          rw [hb3] at p3
          rw [hb4] at p4
          have o3 := O3.out
          have o4 := O4.out
          (try simp only [World.size_alloc, World.size_drew] at hb3 hb4 o3 o4)
          (try rw [hb4])
          (try rw [hb3])
          obtain ⟨X, hX⟩ : ∃ X, wb = X := ⟨_, rfl⟩
          rw [hX] at N3 N4 HD HZ hHeld ⊢
          obtain ⟨g0, g1, -, g3⟩ := N3.out
          obtain ⟨⟨j0, j1⟩, ⟨j2, j3⟩, -, j5⟩ := N4.out
          have hS0 := hHeld
          refine wpAnyH_ready (rs := [6]) (by kernel_rfl) (by simp) ?_
          refine AllReadyH.cons rfl (fun K hK => ?_) AllReadyH.nil
          go_simp
          (try go_wp2_with fail)
          refine hK.out _ _ (LaS.set hHeld g3) (fun hHeld => ?_)
          clear hK K
          (try simp only [Act.put, List.getElem_toArray, List.getElem_cons_succ, List.getElem_cons_zero, List.setIfInBounds_toArray, List.set_cons_zero, List.set_cons_succ])
          have e0 : (X.setCell ⟨b3, 0, none⟩ (.func (.func 103) #[] #[.pointer (some ⟨x1, 0, none⟩), .pointer (some ⟨x2, 0, none⟩)])).cell? ⟨b4, 0, none⟩ = some (.int .i64 0) := by rw [World.cell?_setCell_other _ _ _ _ (by intro e; injection e with e _ _; exact hne e.symm)]; exact j0
          have e1 : (X.setCell ⟨b3, 0, none⟩ (.func (.func 103) #[] #[.pointer (some ⟨x1, 0, none⟩), .pointer (some ⟨x2, 0, none⟩)])).cell? ⟨b4, 1, none⟩ = some (.int .i64 0) := by rw [World.cell?_setCell_other _ _ _ _ (by intro e; injection e with e _ _; exact hne e.symm)]; exact j1
          have e2 : (X.setCell ⟨b3, 0, none⟩ (.func (.func 103) #[] #[.pointer (some ⟨x1, 0, none⟩), .pointer (some ⟨x2, 0, none⟩)])).frozen? ⟨b4, 0, none⟩ = false := by rw [frozen_set]; exact j2
          have e3 : (X.setCell ⟨b3, 0, none⟩ (.func (.func 103) #[] #[.pointer (some ⟨x1, 0, none⟩), .pointer (some ⟨x2, 0, none⟩)])).frozen? ⟨b4, 1, none⟩ = false := by rw [frozen_set]; exact j3
          refine wpAnyH_ready (rs := [7]) (by kernel_rfl) (by simp) ?_
          refine AllReadyH.cons rfl (fun K hK => ?_) AllReadyH.nil
          go_simp
          (try go_wp2_with fail)
          refine hK.out _ _ (LaS.set (LaS.set hHeld j5) j5) (fun hHeld => ?_)
          clear hK K
          (try simp only [Act.put, List.getElem_toArray, List.getElem_cons_succ, List.getElem_cons_zero, List.setIfInBounds_toArray, List.set_cons_zero, List.set_cons_succ])
          refine wpAnyH_done (by kernel_rfl) ?_ _
          have HH := hid (lpH_of hne g0 j0 j1 N3.out.l N4.out.l g3 j5 hS0 HD.out HZ.out (.inl p3) (.inl p4))
          go_wp2_with fail
          refine (cY.out _).mono ?_
          rintro e w5 ⟨rfl, hB⟩
          have H5 := hid (HH.out.below hB)
          clear hB HH HD HZ N3 N4 O3 O4 O34 e0 e1 e2 e3 hHeld hS0 g0 g1 j0 j1 j2 j3 hX hb3 hb4 o3 o4 p3 p4
          go_wp2
          go_ret
          exact ⟨⟨_, rfl, (H5.out.fin _ _).1⟩, (H5.out.fin _ _).2⟩
  · go_simp
    have hB := below_new (o := .cells #[.int .i64 0, .int .i64 0] 53) (Below.refl (w.alloc (.cells (clList c).toArray 28)).drew.heap.size (w.alloc (.cells (clList c).toArray 28)).drew) (Nat.le_refl _)
    have N4 := hid (b2_new (w := w) (W := (w.alloc (.cells (clList c).toArray 28)).drew) (.int .i64 0) (.int .i64 0) 53 hHeld.2.2.2)
    have hS := LaS.keep hHeld hB
    clear hB
    (try go_wp2_with fail)
    refine hK.out _ _ hS (fun hHeld => ?_)
    clear hK K
    (try simp only [Act.put, List.getElem_toArray, List.getElem_cons_succ, List.getElem_cons_zero, List.setIfInBounds_toArray, List.set_cons_zero, List.set_cons_succ])
    refine wpAnyH_ready (rs := [1, 4]) (by kernel_rfl) (by simp) ?_
    refine AllReadyH.cons rfl (fun K hK => ?_) (AllReadyH.cons rfl (fun K hK => ?_) AllReadyH.nil)
    · go_simp
      refine (cD.out _ (by assumption)).mono ?_
      rintro e wa ⟨⟨x1, x2, rfl, hdc⟩, hB⟩
      have HD := hid hdc
      have HZ : Hid (wa.heap.size ≤ wa.heap.size) := Nat.le_refl _
      have O4 := hid N4.out.l
      have N4 := hid (N4.out.below hB)
      have hS := LaS.keep hHeld hB
      clear hB
      (try go_wp2_with fail)
      refine hK.out _ _ hS (fun hHeld => ?_)
      clear hK K
      (try simp only [Act.put, List.getElem_toArray, List.getElem_cons_succ, List.getElem_cons_zero, List.setIfInBounds_toArray, List.set_cons_zero, List.set_cons_succ])
      refine wpAnyH_ready (rs := [3, 4]) (by kernel_rfl) (by simp) ?_
      refine AllReadyH.cons rfl (fun K hK => ?_) (AllReadyH.cons rfl (fun K hK => ?_) AllReadyH.nil)
      · go_simp
        refine (cS.out _).mono ?_
        rintro e wb ⟨rfl, hB⟩
        have HD := hid (HD.out.below (by have := HZ.out; omega) hB)
        have HZ : Hid (wa.heap.size ≤ wb.heap.size) := Nat.le_trans HZ.out hB.size
        have N4 := hid (N4.out.below hB)
        have hS := LaS.keep hHeld hB
        clear hB
        (try go_wp2_with fail)
        refine hK.out _ _ hS (fun hHeld => ?_)
        clear hK K
        (try simp only [Act.put, List.getElem_toArray, List.getElem_cons_succ, List.getElem_cons_zero, List.setIfInBounds_toArray, List.set_cons_zero, List.set_cons_succ])
        refine wpAnyH_ready (rs := [4]) (by kernel_rfl) (by simp) ?_
        refine AllReadyH.cons rfl (fun K hK => ?_) AllReadyH.nil
        · go_simp
          have hB := below_new (o := .cells #[.nilFunc] 62) (Below.refl wb.heap.size wb) (Nat.le_refl _)
          have N3 := hid (b1_new (w := w) (W := wb) .nilFunc 62 hHeld.2.2.2)
          have O34 := hid N4.out.l
          have HD := hid (HD.out.below (by have := HZ.out; omega) hB)
          have O3 : Hid (wa.heap.size ≤ wb.heap.size) := HZ.out
          have HZ : Hid (wa.heap.size ≤ (wb.alloc (.cells #[.nilFunc] 62)).heap.size) := Nat.le_trans HZ.out hB.size
          have N4 := hid (N4.out.below hB)
          have hS := LaS.keep hHeld hB
          clear hB
          (try go_wp2_with fail)
          refine hK.out _ _ hS (fun hHeld => ?_)
          clear hK K
          (try simp only [Act.put, List.getElem_toArray, List.getElem_cons_succ, List.getElem_cons_zero, List.setIfInBounds_toArray, List.set_cons_zero, List.set_cons_succ])
          obtain ⟨b3, hb3⟩ : ∃ b, wb.heap.size = b := ⟨_, rfl⟩
          obtain ⟨b4, hb4⟩ : ∃ b, (w.alloc (.cells (clList c).toArray 28)).drew.heap.size = b := ⟨_, rfl⟩
          rw [hb3] at N3
          rw [hb4] at N4
          have hne : ¬ b4 = b3 := by have := O34.out; omega
          have p3 := O3.out
          have p4 := O4.out
          rw [hb3] at p3
          rw [hb4] at p4
          have o3 := O3.out
          have o4 := O4.out
          (try simp only [World.size_alloc, World.size_drew] at hb3 hb4 o3 o4)
          (try rw [hb3])
          (try rw [hb4])
          obtain ⟨X, hX⟩ : ∃ X, (wb.alloc (.cells #[.nilFunc] 62)) = X := ⟨_, rfl⟩
          rw [hX] at N3 N4 HD HZ hHeld ⊢
          obtain ⟨g0, g1, -, g3⟩ := N3.out
          obtain ⟨⟨j0, j1⟩, ⟨j2, j3⟩, -, j5⟩ := N4.out
          have hS0 := hHeld
          refine wpAnyH_ready (rs := [6]) (by kernel_rfl) (by simp) ?_
          refine AllReadyH.cons rfl (fun K hK => ?_) AllReadyH.nil
          go_simp
          (try go_wp2_with fail)
          refine hK.out _ _ (LaS.set hHeld g3) (fun hHeld => ?_)
          clear hK K
          (try simp only [Act.put, List.getElem_toArray, List.getElem_cons_succ, List.getElem_cons_zero, List.setIfInBounds_toArray, List.set_cons_zero, List.set_cons_succ])
          have e0 : (X.setCell ⟨b3, 0, none⟩ (.func (.func 103) #[] #[.pointer (some ⟨x1, 0, none⟩), .pointer (some ⟨x2, 0, none⟩)])).cell? ⟨b4, 0, none⟩ = some (.int .i64 0) := by rw [World.cell?_setCell_other _ _ _ _ (by intro e; injection e with e _ _; exact hne e.symm)]; exact j0
          have e1 : (X.setCell ⟨b3, 0, none⟩ (.func (.func 103) #[] #[.pointer (some ⟨x1, 0, none⟩), .pointer (some ⟨x2, 0, none⟩)])).cell? ⟨b4, 1, none⟩ = some (.int .i64 0) := by rw [World.cell?_setCell_other _ _ _ _ (by intro e; injection e with e _ _; exact hne e.symm)]; exact j1
          have e2 : (X.setCell ⟨b3, 0, none⟩ (.func (.func 103) #[] #[.pointer (some ⟨x1, 0, none⟩), .pointer (some ⟨x2, 0, none⟩)])).frozen? ⟨b4, 0, none⟩ = false := by rw [frozen_set]; exact j2
          have e3 : (X.setCell ⟨b3, 0, none⟩ (.func (.func 103) #[] #[.pointer (some ⟨x1, 0, none⟩), .pointer (some ⟨x2, 0, none⟩)])).frozen? ⟨b4, 1, none⟩ = false := by rw [frozen_set]; exact j3
          refine wpAnyH_ready (rs := [7]) (by kernel_rfl) (by simp) ?_
          refine AllReadyH.cons rfl (fun K hK => ?_) AllReadyH.nil
          go_simp
          (try go_wp2_with fail)
          refine hK.out _ _ (LaS.set (LaS.set hHeld j5) j5) (fun hHeld => ?_)
          clear hK K
          (try simp only [Act.put, List.getElem_toArray, List.getElem_cons_succ, List.getElem_cons_zero, List.setIfInBounds_toArray, List.set_cons_zero, List.set_cons_succ])
          refine wpAnyH_done (by kernel_rfl) ?_ _
          have HH := hid (lpH_of hne g0 j0 j1 N3.out.l N4.out.l g3 j5 hS0 HD.out HZ.out (by omega) (.inl p4))
          go_wp2_with fail
          refine (cY.out _).mono ?_
          rintro e w5 ⟨rfl, hB⟩
          have H5 := hid (HH.out.below hB)
          clear hB HH HD HZ N3 N4 O3 O4 O34 e0 e1 e2 e3 hHeld hS0 g0 g1 j0 j1 j2 j3 hX hb3 hb4 o3 o4 p3 p4
          go_wp2
          go_ret
          exact ⟨⟨_, rfl, (H5.out.fin _ _).1⟩, (H5.out.fin _ _).2⟩
      · go_simp
        have hB := below_new (o := .cells #[.nilFunc] 62) (Below.refl wa.heap.size wa) (Nat.le_refl _)
        have N3 := hid (b1_new (w := w) (W := wa) .nilFunc 62 hHeld.2.2.2)
        have O34 := hid N4.out.l
        have HD := hid (HD.out.below (by have := HZ.out; omega) hB)
        have O3 : Hid (wa.heap.size ≤ wa.heap.size) := HZ.out
        have HZ : Hid (wa.heap.size ≤ (wa.alloc (.cells #[.nilFunc] 62)).heap.size) := Nat.le_trans HZ.out hB.size
        have N4 := hid (N4.out.below hB)
        have hS := LaS.keep hHeld hB
        clear hB
        (try go_wp2_with fail)
        refine hK.out _ _ hS (fun hHeld => ?_)
        clear hK K
        (try simp only [Act.put, List.getElem_toArray, List.getElem_cons_succ, List.getElem_cons_zero, List.setIfInBounds_toArray, List.set_cons_zero, List.set_cons_succ])
        refine wpAnyH_ready (rs := [3]) (by kernel_rfl) (by simp) ?_
        refine AllReadyH.cons rfl (fun K hK => ?_) AllReadyH.nil
        · go_simp
          refine (cS.out _).mono ?_
          rintro e wb ⟨rfl, hB⟩
          have HD := hid (HD.out.below (by have := HZ.out; omega) hB)
          have HZ : Hid (wa.heap.size ≤ wb.heap.size) := Nat.le_trans HZ.out hB.size
          have N3 := hid (N3.out.below hB)
          have N4 := hid (N4.out.below hB)
          have hS := LaS.keep hHeld hB
          clear hB
          (try go_wp2_with fail)
          refine hK.out _ _ hS (fun hHeld => ?_)
          clear hK K
          (try simp only [Act.put, List.getElem_toArray, List.getElem_cons_succ, List.getElem_cons_zero, List.setIfInBounds_toArray, List.set_cons_zero, List.set_cons_succ])
          obtain ⟨b3, hb3⟩ : ∃ b, wa.heap.size = b := ⟨_, rfl⟩
          obtain ⟨b4, hb4⟩ : ∃ b, (w.alloc (.cells (clList c).toArray 28)).drew.heap.size = b := ⟨_, rfl⟩
          rw [hb3] at N3
          rw [hb4] at N4
          have hne : ¬ b4 = b3 := by have := O34.out; omega
          have p3 := O3.out
          have p4 := O4.out
          rw [hb3] at p3
          rw [hb4] at p4
          have o3 := O3.out
          have o4 := O4.out
          (try simp only [World.size_alloc, World.size_drew] at hb3 hb4 o3 o4)
          (try rw [hb3])
          (try rw [hb4])
          obtain ⟨X, hX⟩ : ∃ X, wb = X := ⟨_, rfl⟩
          rw [hX] at N3 N4 HD HZ hHeld ⊢
          obtain ⟨g0, g1, -, g3⟩ := N3.out
          obtain ⟨⟨j0, j1⟩, ⟨j2, j3⟩, -, j5⟩ := N4.out
          have hS0 := hHeld
          refine wpAnyH_ready (rs := [6]) (by kernel_rfl) (by simp) ?_
          refine AllReadyH.cons rfl (fun K hK => ?_) AllReadyH.nil
          go_simp
          (try go_wp2_with fail)
          refine hK.out _ _ (LaS.set hHeld g3) (fun hHeld => ?_)
          clear hK K
          (try simp only [Act.put, List.getElem_toArray, List.getElem_cons_succ, List.getElem_cons_zero, List.setIfInBounds_toArray, List.set_cons_zero, List.set_cons_succ])
          have e0 : (X.setCell ⟨b3, 0, none⟩ (.func (.func 103) #[] #[.pointer (some ⟨x1, 0, none⟩), .pointer (some ⟨x2, 0, none⟩)])).cell? ⟨b4, 0, none⟩ = some (.int .i64 0) := by rw [World.cell?_setCell_other _ _ _ _ (by intro e; injection e with e _ _; exact hne e.symm)]; exact j0
          have e1 : (X.setCell ⟨b3, 0, none⟩ (.func (.func 103) #[] #[.pointer (some ⟨x1, 0, none⟩), .pointer (some ⟨x2, 0, none⟩)])).cell? ⟨b4, 1, none⟩ = some (.int .i64 0) := by rw [World.cell?_setCell_other _ _ _ _ (by intro e; injection e with e _ _; exact hne e.symm)]; exact j1
          have e2 : (X.setCell ⟨b3, 0, none⟩ (.func (.func 103) #[] #[.pointer (some ⟨x1, 0, none⟩), .pointer (some ⟨x2, 0, none⟩)])).frozen? ⟨b4, 0, none⟩ = false := by rw [frozen_set]; exact j2
          have e3 : (X.setCell ⟨b3, 0, none⟩ (.func (.func 103) #[] #[.pointer (some ⟨x1, 0, none⟩), .pointer (some ⟨x2, 0, none⟩)])).frozen? ⟨b4, 1, none⟩ = false := by rw [frozen_set]; exact j3
          refine wpAnyH_ready (rs := [7]) (by kernel_rfl) (by simp) ?_
          refine AllReadyH.cons rfl (fun K hK => ?_) AllReadyH.nil
          go_simp
          (try go_wp2_with fail)
          refine hK.out _ _ (LaS.set (LaS.set hHeld j5) j5) (fun hHeld => ?_)
          clear hK K
          (try simp only [Act.put, List.getElem_toArray, List.getElem_cons_succ, List.getElem_cons_zero, List.setIfInBounds_toArray, List.set_cons_zero, List.set_cons_succ])
          refine wpAnyH_done (by kernel_rfl) ?_ _
          have HH := hid (lpH_of hne g0 j0 j1 N3.out.l N4.out.l g3 j5 hS0 HD.out HZ.out (by omega) (.inl p4))
          go_wp2_with fail
          refine (cY.out _).mono ?_
          rintro e w5 ⟨rfl, hB⟩
          have H5 := hid (HH.out.below hB)
          clear hB HH HD HZ N3 N4 O3 O4 O34 e0 e1 e2 e3 hHeld hS0 g0 g1 j0 j1 j2 j3 hX hb3 hb4 o3 o4 p3 p4
          go_wp2
          go_ret
          exact ⟨⟨_, rfl, (H5.out.fin _ _).1⟩, (H5.out.fin _ _).2⟩
    · go_simp
      have hB := below_new (o := .cells #[.nilFunc] 62) (Below.refl ((w.alloc (.cells (clList c).toArray 28)).drew.alloc (.cells #[.int .i64 0, .int .i64 0] 53)).heap.size ((w.alloc (.cells (clList c).toArray 28)).drew.alloc (.cells #[.int .i64 0, .int .i64 0] 53))) (Nat.le_refl _)
      have N3 := hid (b1_new (w := w) (W := ((w.alloc (.cells (clList c).toArray 28)).drew.alloc (.cells #[.int .i64 0, .int .i64 0] 53))) .nilFunc 62 hHeld.2.2.2)
      have O34 := hid N4.out.l
      have N4 := hid (N4.out.below hB)
      have hS := LaS.keep hHeld hB
      clear hB
      (try go_wp2_with fail)
      refine hK.out _ _ hS (fun hHeld => ?_)
      clear hK K
      (try simp only [Act.put, List.getElem_toArray, List.getElem_cons_succ, List.getElem_cons_zero, List.setIfInBounds_toArray, List.set_cons_zero, List.set_cons_succ])
      refine wpAnyH_ready (rs := [1]) (by kernel_rfl) (by simp) ?_
      refine AllReadyH.cons rfl (fun K hK => ?_) AllReadyH.nil
      · go_simp
        refine (cD.out _ (by assumption)).mono ?_
        rintro e wa ⟨⟨x1, x2, rfl, hdc⟩, hB⟩
        have HD := hid hdc
        have HZ : Hid (wa.heap.size ≤ wa.heap.size) := Nat.le_refl _
        have O3 := hid N3.out.l
        have O4 := hid N4.out.l
        have N3 := hid (N3.out.below hB)
        have N4 := hid (N4.out.below hB)
        have hS := LaS.keep hHeld hB
        clear hB
        (try go_wp2_with fail)
        refine hK.out _ _ hS (fun hHeld => ?_)
        clear hK K
        (try simp only [Act.put, List.getElem_toArray, List.getElem_cons_succ, List.getElem_cons_zero, List.setIfInBounds_toArray, List.set_cons_zero, List.set_cons_succ])
        refine wpAnyH_ready (rs := [3]) (by kernel_rfl) (by simp) ?_
        refine AllReadyH.cons rfl (fun K hK => ?_) AllReadyH.nil
        · go_simp
          refine (cS.out _).mono ?_
          rintro e wb ⟨rfl, hB⟩
          have HD := hid (HD.out.below (by have := HZ.out; omega) hB)
          have HZ : Hid (wa.heap.size ≤ wb.heap.size) := Nat.le_trans HZ.out hB.size
          have N3 := hid (N3.out.below hB)
          have N4 := hid (N4.out.below hB)
          have hS := LaS.keep hHeld hB
          clear hB
          (try go_wp2_with fail)
          refine hK.out _ _ hS (fun hHeld => ?_)
          clear hK K
          (try simp only [Act.put, List.getElem_toArray, List.getElem_cons_succ, List.getElem_cons_zero, List.setIfInBounds_toArray, List.set_cons_zero, List.set_cons_succ])
          obtain ⟨b3, hb3⟩ : ∃ b, ((w.alloc (.cells (clList c).toArray 28)).drew.alloc (.cells #[.int .i64 0, .int .i64 0] 53)).heap.size = b := ⟨_, rfl⟩
          obtain ⟨b4, hb4⟩ : ∃ b, (w.alloc (.cells (clList c).toArray 28)).drew.heap.size = b := ⟨_, rfl⟩
          rw [hb3] at N3
          rw [hb4] at N4
          have hne : ¬ b4 = b3 := by have := O34.out; omega
          have p3 := O3.out
          have p4 := O4.out
          rw [hb3] at p3
          rw [hb4] at p4
          have o3 := O3.out
          have o4 := O4.out
          (try simp only [World.size_alloc, World.size_drew] at hb3 hb4 o3 o4)
          (try rw [hb3])
          (try rw [hb4])
          obtain ⟨X, hX⟩ : ∃ X, wb = X := ⟨_, rfl⟩
          rw [hX] at N3 N4 HD HZ hHeld ⊢
          obtain ⟨g0, g1, -, g3⟩ := N3.out
          obtain ⟨⟨j0, j1⟩, ⟨j2, j3⟩, -, j5⟩ := N4.out
          have hS0 := hHeld
          refine wpAnyH_ready (rs := [6]) (by kernel_rfl) (by simp) ?_
          refine AllReadyH.cons rfl (fun K hK => ?_) AllReadyH.nil
          go_simp
          (try go_wp2_with fail)
          refine hK.out _ _ (LaS.set hHeld g3) (fun hHeld => ?_)
          clear hK K
          (try simp only [Act.put, List.getElem_toArray, List.getElem_cons_succ, List.getElem_cons_zero, List.setIfInBounds_toArray, List.set_cons_zero, List.set_cons_succ])
          have e0 : (X.setCell ⟨b3, 0, none⟩ (.func (.func 103) #[] #[.pointer (some ⟨x1, 0, none⟩), .pointer (some ⟨x2, 0, none⟩)])).cell? ⟨b4, 0, none⟩ = some (.int .i64 0) := by rw [World.cell?_setCell_other _ _ _ _ (by intro e; injection e with e _ _; exact hne e.symm)]; exact j0
          have e1 : (X.setCell ⟨b3, 0, none⟩ (.func (.func 103) #[] #[.pointer (some ⟨x1, 0, none⟩), .pointer (some ⟨x2, 0, none⟩)])).cell? ⟨b4, 1, none⟩ = some (.int .i64 0) := by rw [World.cell?_setCell_other _ _ _ _ (by intro e; injection e with e _ _; exact hne e.symm)]; exact j1
          have e2 : (X.setCell ⟨b3, 0, none⟩ (.func (.func 103) #[] #[.pointer (some ⟨x1, 0, none⟩), .pointer (some ⟨x2, 0, none⟩)])).frozen? ⟨b4, 0, none⟩ = false := by rw [frozen_set]; exact j2
          have e3 : (X.setCell ⟨b3, 0, none⟩ (.func (.func 103) #[] #[.pointer (some ⟨x1, 0, none⟩), .pointer (some ⟨x2, 0, none⟩)])).frozen? ⟨b4, 1, none⟩ = false := by rw [frozen_set]; exact j3
          refine wpAnyH_ready (rs := [7]) (by kernel_rfl) (by simp) ?_
          refine AllReadyH.cons rfl (fun K hK => ?_) AllReadyH.nil
          go_simp
          (try go_wp2_with fail)
          refine hK.out _ _ (LaS.set (LaS.set hHeld j5) j5) (fun hHeld => ?_)
          clear hK K
          (try simp only [Act.put, List.getElem_toArray, List.getElem_cons_succ, List.getElem_cons_zero, List.setIfInBounds_toArray, List.set_cons_zero, List.set_cons_succ])
          refine wpAnyH_done (by kernel_rfl) ?_ _
          have HH := hid (lpH_of hne g0 j0 j1 N3.out.l N4.out.l g3 j5 hS0 HD.out HZ.out (.inl p3) (.inl p4))
          go_wp2_with fail
          refine (cY.out _).mono ?_
          rintro e w5 ⟨rfl, hB⟩
          have H5 := hid (HH.out.below hB)
          clear hB HH HD HZ N3 N4 O3 O4 O34 e0 e1 e2 e3 hHeld hS0 g0 g1 j0 j1 j2 j3 hX hb3 hb4 o3 o4 p3 p4
          go_wp2
          go_ret
          exact ⟨⟨_, rfl, (H5.out.fin _ _).1⟩, (H5.out.fin _ _).2⟩
end Go.Proofs.Ytndfckpcbiecnaa
namespace Go.Proofs.Ytndfckpcbiecnaa
open Go.RowKit
set_option linter.unusedVariables false

attribute [local go_sem ↓] loadAt_cl
theorem LpV.call {W : World} {c : Cl} {fv : Value} (h : LpV W c fv) (hc : c.Ok) (hm : mayC c = true) {n : Int} (h0 : 0 ≤ n) (h1 : n < 146097) :
    ∃ y1 y2 y3 y4 y5 y6 : Nat, fv = .func (.func 168) #[] #[.pointer (some ⟨y1, 0, none⟩), .pointer (some ⟨y2, 0, none⟩), .pointer (some ⟨y3, 0, none⟩), .pointer (some ⟨y4, 0, none⟩), .pointer (some ⟨y5, 0, none⟩), .pointer (some ⟨y6, 0, none⟩)] ∧
      ∀ W', Below W.heap.size W W' → Calls Try.prog 168 #[shN n, .pointer (some ⟨y1, 0, none⟩), .pointer (some ⟨y2, 0, none⟩), .pointer (some ⟨y3, 0, none⟩), .pointer (some ⟨y4, 0, none⟩), .pointer (some ⟨y5, 0, none⟩), .pointer (some ⟨y6, 0, none⟩)] W' fun e w'' => e = .returned (stateV c n) ∧ Below W'.heap.size W' w'' := by
  obtain ⟨b7, b5, b6, b3, b4, b1, x1, x2, lo, hi, rfl, hL, hD, hhi⟩ := h
  refine ⟨b7, b5, b6, b3, b4, b1, rfl, fun W' hb => ?_⟩
  obtain ⟨l7, l5, l6, l3, l4, l1⟩ := hL.l
  have hs := hb.size
  refine LapFn_any c n b7 b5 b6 b3 b4 b1 x1 x2 W' hc hm h0 h1 { hL.below hb with l := ⟨by omega, by omega, by omega, by omega, by omega, by omega⟩ } (fun W'' hb' => ?_)
  have hb2 := hb.trans (hb'.mono hs)
  exact hD n W'' h0 h1 (Nat.le_trans hhi hb2.size) (fun b _ hlt => hb2.block b (Nat.lt_of_lt_of_le hlt hhi))
/-- what On reads and writes -/
abbrev OnS (w : World) (c : Cl) (s : Nat → Int) (W : World) : Prop := DyS w c s W ∧ w.heap.size + 1 + 1 < W.heap.size
theorem OnS.keep {w W W' : World} {c : Cl} {s : Nat → Int} (h : OnS w c s W) (hb : Below W.heap.size W W') : OnS w c s W' := ⟨h.1.keep hb, Nat.lt_of_lt_of_le h.2 hb.size⟩
theorem OnS.set {w W : World} {c : Cl} {s : Nat → Int} (h : OnS w c s W) (o : Nat) (v : Value) : OnS w c s (W.setCell ⟨w.heap.size + 1 + 1, o, none⟩ v) := by
  obtain ⟨⟨_, h1, h2, h3, h4⟩, h5⟩ := h
  have hb : Below (w.heap.size + 1 + 1) W (W.setCell ⟨w.heap.size + 1 + 1, o, none⟩ v) := below_set (Below.refl _ _) (Nat.le_refl _)
  have k := h1.below hb (by omega)
  have hs : (W.setCell ⟨w.heap.size + 1 + 1, o, none⟩ v).heap.size = W.heap.size := World.size_setCell _ _ _
  exact ⟨⟨k.ld, k, h2.below hb (by omega), h3.trans (hb.mono (by omega)), by rw [hs]; exact h4⟩, by rw [hs]; exact h5⟩
set_option maxRecDepth 100000 in
set_option maxHeartbeats 3200000 in
theorem LapOn_any (c : Cl) (n : Int) (w : World) (hc : c.Ok) (hm : mayC c = true) (hfr : c.fr = 0) (hun : c.un = 12622780799) (h0 : 0 ≤ n) (h1 : n < 146097) :
    Calls Try.prog 59 #[clv c, shN n] w fun e w' => e = .returned (stateV c n) ∧ Below w.heap.size w w' := by
  have cL : Hid (∀ W, OnS w c (shF n) W → Calls Try.prog 125 #[clv c] W fun e w' => (∃ y1 y2 y3 y4 y5 y6 : Nat, e = .returned (.func (.func 168) #[] #[.pointer (some ⟨y1, 0, none⟩), .pointer (some ⟨y2, 0, none⟩), .pointer (some ⟨y3, 0, none⟩), .pointer (some ⟨y4, 0, none⟩), .pointer (some ⟨y5, 0, none⟩), .pointer (some ⟨y6, 0, none⟩)]) ∧
      ∀ W', Below w'.heap.size w' W' → Calls Try.prog 168 #[shq (shF n), .pointer (some ⟨y1, 0, none⟩), .pointer (some ⟨y2, 0, none⟩), .pointer (some ⟨y3, 0, none⟩), .pointer (some ⟨y4, 0, none⟩), .pointer (some ⟨y5, 0, none⟩), .pointer (some ⟨y6, 0, none⟩)] W' fun e w'' => e = .returned (stateV c n) ∧ Below W'.heap.size W' w'') ∧ OnS w c (shF n) w' ∧ Below W.heap.size W w') := fun W hS =>
    (Laps_any c W hc hm hfr hun).mono fun e w' ⟨⟨fv, he, hv⟩, hb⟩ => by
      obtain ⟨y1, y2, y3, y4, y5, y6, rfl, hC⟩ := hv.call hc hm h0 h1
      exact ⟨⟨y1, y2, y3, y4, y5, y6, he, hC⟩, hS.keep hb, hb⟩
  have hB0 : Below w.heap.size w ((w.alloc (.cells (clList c).toArray 28)).alloc (.cells (shList (shF n)).toArray 60)) := below_new (below_new (Below.refl _ _) (Nat.le_refl _)) (by simp)
  have hF : Four (((w.alloc (.cells (clList c).toArray 28)).alloc (.cells (shList (shF n)).toArray 60)).alloc (.cells #[.bool false, .int .i64 0, .int .i64 0, .int .i64 0] 98)).drew (w.heap.size + 1 + 1) (.bool false) (.int .i64 0) (.int .i64 0) (.int .i64 0) := by
    have h := four_new ((w.alloc (.cells (clList c).toArray 28)).alloc (.cells (shList (shF n)).toArray 60)) (.bool false) (.int .i64 0) (.int .i64 0) (.int .i64 0) 98
    simp only [World.size_alloc] at h
    exact h.below (Below.refl _ _).drew (Nat.lt_succ_self _)
  have hS0 : OnS w c (shF n) (((w.alloc (.cells (clList c).toArray 28)).alloc (.cells (shList (shF n)).toArray 60)).alloc (.cells #[.bool false, .int .i64 0, .int .i64 0, .int .i64 0] 98)).drew :=
    ⟨((daS_new w c (shF n) 28 60).dys.keep (below_new (Below.refl _ _) (Nat.le_refl _))).keep (Below.refl _ _).drew, by show _ < (World.alloc _ _).heap.size; simp⟩
  have HF := hid hF
  have HS0 := hid hS0
  clear hF hS0 hB0
  obtain ⟨a, f, u, p, hst⟩ : ∃ a f u p, stateV c n = stv a f u p := by
    rw [stateV]; split <;> exact ⟨_, _, _, _, rfl⟩
  rw [hst] at cL ⊢
  clear hst h0 h1 hc hm hfr hun
  rw [← shq_shF]
  obtain ⟨s, hs⟩ : ∃ s, shF n = s := ⟨_, rfl⟩
  rw [hs] at cL HS0 HF ⊢
  clear hs
  rw [shq] at cL ⊢
  go_enter Try.func59, Try.ntmps59
  go_wp2_with fail
  refine wp_region_held_drew (S := fun w' => OnS w c s w') (by kernel_rfl) ?_ (fun hHeld => ?_)
  · exact HS0.out
  refine wpAnyH_take (i := 0) (v := ?_) rfl (by kernel_rfl) (by kernel_rfl) (by kernel_rfl) (fun _ _ _ h => h) (Or.inl ⟨by rfl, ?_⟩) (by assumption) ?_
  rotate_left
  · intro w hSw; (try dsimp only [RMS] at hSw); go_simp; (try with_reducible rfl)
  (try simp only [Act.put, List.getElem_toArray, List.getElem_cons_zero, List.setIfInBounds_toArray, List.set_cons_zero, List.set_cons_succ])
  refine wpAnyH_take (i := 2) (v := ?_) rfl (by kernel_rfl) (by kernel_rfl) (by kernel_rfl) (fun _ _ _ h => h) (Or.inl ⟨by rfl, ?_⟩) (by assumption) ?_
  rotate_left
  · intro w hSw; (try dsimp only [RMS] at hSw); go_simp; (try with_reducible rfl)
  (try simp only [Act.put, List.getElem_toArray, List.getElem_cons_succ, List.getElem_cons_zero, List.setIfInBounds_toArray, List.set_cons_zero, List.set_cons_succ])
  refine wpAnyH_ready (rs := [1]) (by kernel_rfl) (by simp) ?_
  refine AllReadyH.cons rfl (fun K hK => ?_) AllReadyH.nil
  go_simp
  refine (cL.out _ (by assumption)).mono ?_
  rintro e w1 ⟨⟨y1, y2, y3, y4, y5, y6, rfl, hC⟩, hS, hB⟩
  have HC := hid hC
  have HF1 := hid (HF.out.below hB hHeld.2)
  clear hC hB
  (try go_wp2_with fail)
  refine hK.out _ _ (by assumption) (fun hHeld => ?_)
  clear hK K
  (try simp only [Act.put, List.getElem_toArray, List.getElem_cons_succ, List.getElem_cons_zero, List.setIfInBounds_toArray, List.set_cons_zero, List.set_cons_succ])
  refine wpAnyH_ready (rs := [3]) (by kernel_rfl) (by simp) ?_
  refine AllReadyH.cons rfl (fun K hK => ?_) AllReadyH.nil
  go_simp
  refine (HC.out _ (Below.refl _ _)).mono ?_
  rintro e w2 ⟨rfl, hB2⟩
  have hS2 := OnS.keep hHeld hB2
  have HF2 := hid (HF1.out.below hB2 hHeld.2)
  clear hB2
  (try go_wp2_with fail)
  refine hK.out _ _ hS2 (fun hHeld => ?_)
  clear hK K
  (try simp only [Act.put, List.getElem_toArray, List.getElem_cons_succ, List.getElem_cons_zero, List.setIfInBounds_toArray, List.set_cons_zero, List.set_cons_succ])
  obtain ⟨⟨a0, a1, a2, a3⟩, f0, f1, f2, f3⟩ := HF2.out
  refine wpAnyH_ready (rs := [4]) (by kernel_rfl) (by simp) ?_
  refine AllReadyH.cons rfl (fun K hK => ?_) AllReadyH.nil
  go_simp
  (try go_wp2_with fail)
  refine hK.out _ _ ((((hHeld.set 0 _).set 1 _).set 2 _).set 3 _) (fun hHeld => ?_)
  clear hK K
  (try simp only [Act.put, List.getElem_toArray, List.getElem_cons_succ, List.getElem_cons_zero, List.setIfInBounds_toArray, List.set_cons_zero, List.set_cons_succ])
  refine wpAnyH_done (by kernel_rfl) ?_ _
  go_wp2
  exact bodyPost_ret (results_cell_mid rfl _ _ (w.heap.size + 1 + 1) 0 _ _ rfl (HF2.out.put _ _ _ _) Try.underlying98 rfl infoSt) rfl ⟨rfl, (by assumption : OnS w c s _).1.2.2.2.1⟩
end Go.Proofs.Ytndfckpcbiecnaa

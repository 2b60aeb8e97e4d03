/-
  What feriaref07.Held, tod.Last and tod.Len compute.
-/
import Derived.Test.YtdggflkkojmabaaDoorGreatest
import Derived.Test.YtdggflkkojmabaaDoorSecs
import Derived.Test.YtdggflkkojmabaaDoorTodLives
namespace Go.Proofs.YtdggflkkojmabaaDoor
open Go.RowKit
set_option linter.unusedVariables false

theorem held_law (x t : Nat) (ht : t < 64) (hx : x < 18446744073709551616) : ofM (sel x.testBit (t + 1)) = cutM x t := by
  symm
  refine eq_mk (cutM_lt _ hx) (fun i hi => ?_)
  rw [cutM_test, inB, Bool.eq_iff_iff]
  simp only [Bool.and_eq_true, decide_eq_true_eq, sel_mem]
  constructor
  · rintro ⟨h1, h2, h3⟩; exact ⟨i, by omega, h1, rfl⟩
  · rintro ⟨k, h1, h2, h3⟩
    have : i = k := by omega
    subst this
    exact ⟨h2, hi, by omega⟩

set_option maxHeartbeats 800000 in
theorem RHeld_any (x t : Nat) (w : World) (hx : x < 18446744073709551616) (ht : t < 64) :
    Calls Tryd.prog 91 #[.int .u64 x, .int .i64 t] w fun e w' => e = .returned (.int .u64 (cutM x t)) ∧ Below w.heap.size w w' := by
  have H1 := hid (fun n W => RHas_any x n W hx)
  have HL := hid (held_law x t ht hx)
  go_enter Tryd.func91, Tryd.ntmps91
  go_wp2
  go_loopw [5, 6] (fun v i wr => ∃ (n m cap : Nat) (a : Option Addr), i = .int .i64 n ∧ n ≤ t + 1 ∧ v = .slice a m cap ∧ m = (sel x.testBit n).length ∧ m ≤ n ∧ wr.ownsRow w.heap.size 3 1 (.slice a m cap) m (ints (sel x.testBit n)) ∧ Below w.heap.size w wr) (fun _ i _ => (64 - intOf i).toNat)
  case atStart => exact ⟨0, 0, 0, none, rfl, by omega, rfl, rfl, by omega, World.ownsRow_nil _ _ _ _, Below.refl _ _⟩
  case round =>
    obtain ⟨n, m, cap, a, rfl, hn, rfl, hme, hm, hown, hB⟩ := hrel
    have hsz := hB.size
    by_cases hlt : n ≤ t
    · have H2 := hid (hasB_nat x n ▸ H1.out n wr)
      have Hme := hid hme
      clear hme
      by_cases hb : x.testBit n = true
      · have Hy := hid (sel_yes hb)
        rw [hb] at H2
        clear hb
        go_wp2_with fail
        refine H2.out.mono ?_
        rintro e w1 ⟨rfl, rfl⟩
        go_wp2_with (at_builtin; refine app1 eInt (.tmp 15) (.tmp 17) rfl rfl rfl rfl rfl hown rfl (by omega) (by omega) hsz ?_)
        intro a' cap' w' hown2 hg2 hb2 hf2
        have hB2 := hB.trans hb2
        rw [← ints_one, ← ints_append, ← Hy.out] at hown2
        go_wp2
        exact ⟨⟨n + 1, m + 1, cap', a', by go_num, by omega, rfl, by rw [Hy.out, List.length_append, ← Hme.out]; rfl, by omega, hown2, hB2⟩, by simp [intOf]; omega⟩
      · have hb' : x.testBit n = false := by simpa using hb
        have Hy := hid (sel_no hb')
        rw [hb'] at H2
        clear hb hb'
        go_wp2_with (go_at_call 24; refine H2.out.mono ?_; rintro e w1 ⟨rfl, rfl⟩)
        exact ⟨⟨n + 1, m, cap, a, by go_num, by omega, rfl, by rw [Hy.out]; exact Hme.out, by omega, by rw [Hy.out]; exact hown, hB⟩, by simp [intOf]; omega⟩
    · obtain rfl : n = t + 1 := by omega
      have HO := ROf_any a cap (sel x.testBit (t + 1)) wr (by omega) (owns_sl hown)
      rw [HL.out, ← hme] at HO
      have HO' := hid HO
      have HB := hid hB
      clear hme hown HO hB
      go_wp2_with fail
      refine HO'.out.mono ?_
      rintro e w1 ⟨rfl, hb⟩
      go_wp2
      go_ret
      exact ⟨rfl, HB.out.trans (hb.mono HB.out.size)⟩

theorem topI_bd (m : Nat) : 0 ≤ topI m ∧ topI m ≤ 63 := by
  unfold topI
  rcases Nat.eq_zero_or_pos (sel m.testBit 64).length with h | h
  · rw [h]; exact ⟨Int.le_refl _, by show (0 : Int) ≤ 63; omega⟩
  · obtain ⟨j, hj⟩ : ∃ j, (sel m.testBit 64).length = j + 1 := ⟨(sel m.testBit 64).length - 1, by omega⟩
    rw [hj, lastZ_succ _ j (by omega)]
    exact sel_bd j (by omega)

def lastT (a b c : Nat) : Int × Bool := if a = 0 ∨ b = 0 ∨ c = 0 then (0, false) else (topI a * 3600 + topI b * 60 + topI c, true)

set_option maxHeartbeats 1600000 in
theorem TLast_any (hs ms ss : Nat) (w : World) (hh : hs < 18446744073709551616) (hm : ms < 18446744073709551616) (hss : ss < 18446744073709551616) (hT : Tab w) :
    Calls Tryd.prog 67 #[.int .u64 hs, .int .u64 ms, .int .u64 ss] w fun e w' => e = .returned (.tuple #[.int .i64 (lastT (cutM hs 23) (cutM ms 59) (cutM ss 59)).1, .bool (lastT (cutM hs 23) (cutM ms 59) (cutM ss 59)).2]) ∧ Below w.heap.size w w' := by
  have ha := cutM_lt 23 hh
  have hb := cutM_lt 59 hm
  have hc := cutM_lt 59 hss
  have Hh := hid (Held_any hs ms ss w hh hm hss)
  clear hh hm hss
  obtain ⟨a, ea⟩ : ∃ a, cutM hs 23 = a := ⟨_, rfl⟩
  obtain ⟨b, eb⟩ : ∃ a, cutM ms 59 = a := ⟨_, rfl⟩
  obtain ⟨c, ec⟩ : ∃ a, cutM ss 59 = a := ⟨_, rfl⟩
  rw [ea, eb, ec] at Hh ⊢
  rw [ea] at ha
  rw [eb] at hb
  rw [ec] at hc
  clear ea eb ec
  by_cases h4 : a = 0 ∨ b = 0 ∨ c = 0
  · have hr : lastT a b c = (0, false) := if_pos h4
    rw [hr]
    clear hr
    by_cases a1 : a = 0
    · subst a1
      go_enter Tryd.func67, Tryd.ntmps67
      go_wp2_with (go_at_call 92; refine Hh.out.mono ?_; rintro e w' ⟨rfl, rfl⟩)
      go_ret2
      exact ⟨rfl, Below.refl _ _⟩
    by_cases a2 : b = 0
    · subst a2
      go_enter Tryd.func67, Tryd.ntmps67
      go_wp2_with (go_at_call 92; refine Hh.out.mono ?_; rintro e w' ⟨rfl, rfl⟩)
      go_ret2
      exact ⟨rfl, Below.refl _ _⟩
    · have a3 : c = 0 := by omega
      subst a3
      go_enter Tryd.func67, Tryd.ntmps67
      go_wp2_with (go_at_call 92; refine Hh.out.mono ?_; rintro e w' ⟨rfl, rfl⟩)
      go_ret2
      exact ⟨rfl, Below.refl _ _⟩
  · have hr : lastT a b c = (topI a * 3600 + topI b * 60 + topI c, true) := if_neg h4
    rw [hr]
    clear hr
    have t1 : ((a : Int) == 0) = false := by simp only [beq_eq_false_iff_ne, ne_eq]; omega
    have t2 : ((b : Int) == 0) = false := by simp only [beq_eq_false_iff_ne, ne_eq]; omega
    have t3 : ((c : Int) == 0) = false := by simp only [beq_eq_false_iff_ne, ne_eq]; omega
    clear h4
    have c1 := hid (fun W (h : Tab W) => Great_any a W ha h)
    have c2 := hid (fun W (h : Tab W) => Great_any b W hb h)
    have c3 := hid (fun W (h : Tab W) => Great_any c W hc h)
    obtain ⟨b11, b12⟩ := topI_bd a
    obtain ⟨b21, b22⟩ := topI_bd b
    obtain ⟨b31, b32⟩ := topI_bd c
    obtain ⟨x, ex⟩ : ∃ x, topI a = x := ⟨_, rfl⟩
    obtain ⟨y, ey⟩ : ∃ x, topI b = x := ⟨_, rfl⟩
    obtain ⟨z, ez⟩ : ∃ x, topI c = x := ⟨_, rfl⟩
    rw [ex] at b11 b12 c1 ⊢
    rw [ey] at b21 b22 c2 ⊢
    rw [ez] at b31 b32 c3 ⊢
    clear ex ey ez
    have HT := hid hT
    clear hT
    go_enter Tryd.func67, Tryd.ntmps67
    go_wp2_with (go_at_call 92; refine Hh.out.mono ?_; rintro e w' ⟨rfl, rfl⟩)
    refine (c1.out w HT.out).mono ?_
    rintro e w1 ⟨rfl, hB1⟩
    have HB1 := hid hB1
    clear hB1
    go_wp2_with fail
    refine (c2.out w1 (HT.out.later HB1.out)).mono ?_
    rintro e w2 ⟨rfl, hB2⟩
    have HB2 : Hid (Below w.heap.size w w2) := HB1.out.trans (hB2.mono HB1.out.size)
    clear hB2
    go_wp2_with fail
    refine (c3.out w2 (HT.out.later HB2.out)).mono ?_
    rintro e w3 ⟨rfl, hB3⟩
    have HB3 : Hid (Below w.heap.size w w3) := HB2.out.trans (hB3.mono HB2.out.size)
    clear hB3
    go_wp2
    go_ret2
    exact ⟨rfl, HB3.out⟩

def lenT (a b c : Nat) : Nat := Lib.popAux 64 a * Lib.popAux 64 b * Lib.popAux 64 c
theorem pop64_le (m : Nat) : Lib.popAux 64 m ≤ 64 := by rw [← sel_pop]; exact sel_len _ _
set_option maxHeartbeats 800000 in
theorem TLen_any (hs ms ss : Nat) (w : World) (hh : hs < 18446744073709551616) (hm : ms < 18446744073709551616) (hss : ss < 18446744073709551616) :
    Calls Tryd.prog 68 #[.int .u64 hs, .int .u64 ms, .int .u64 ss] w fun e w' => e = .returned (.int .i64 (lenT (cutM hs 23) (cutM ms 59) (cutM ss 59) : Nat)) ∧ w = w' := by
  have c1 := hid (fun W => Len_any (cutM hs 23) W (cutM_lt 23 hh))
  have c2 := hid (fun W => Len_any (cutM ms 59) W (cutM_lt 59 hm))
  have c3 := hid (fun W => Len_any (cutM ss 59) W (cutM_lt 59 hss))
  have Hh := hid (Held_any hs ms ss w hh hm hss)
  unfold lenT
  have p1 := pop64_le (cutM hs 23)
  have p2 := pop64_le (cutM ms 59)
  have p3 := pop64_le (cutM ss 59)
  obtain ⟨x, ex⟩ : ∃ x, Lib.popAux 64 (cutM hs 23) = x := ⟨_, rfl⟩
  obtain ⟨y, ey⟩ : ∃ x, Lib.popAux 64 (cutM ms 59) = x := ⟨_, rfl⟩
  obtain ⟨z, ez⟩ : ∃ x, Lib.popAux 64 (cutM ss 59) = x := ⟨_, rfl⟩
  rw [ex] at p1 c1 ⊢
  rw [ey] at p2 c2 ⊢
  rw [ez] at p3 c3 ⊢
  have m1 : x * y ≤ 4096 := Nat.mul_le_mul p1 p2
  have m2 : x * y * z ≤ 262144 := Nat.mul_le_mul m1 p3
  have m3 : (x : Int) * (y : Int) = ((x * y : Nat) : Int) := by simp
  have m4 : ((x * y : Nat) : Int) * (z : Int) = ((x * y * z : Nat) : Int) := by simp
  have w1 : wrap64 ((x : Int) * (y : Int)) = ((x * y : Nat) : Int) := by rw [m3]; exact w64 _ (by omega)
  have w2 : wrap64 (((x * y : Nat) : Int) * (z : Int)) = ((x * y * z : Nat) : Int) := by rw [m4]; exact w64 _ (by omega)
  have W1 := hid w1
  have W2 := hid w2
  clear ex ey ez m3 m4 w1 w2 hh hm hss
  go_enter Tryd.func68, Tryd.ntmps68
  go_wp2_with fail
  refine Hh.out.mono ?_
  rintro e w' ⟨rfl, rfl⟩
  go_wp2_with fail
  refine (c1.out w).mono ?_
  rintro e w' ⟨rfl, rfl⟩
  go_wp2_with fail
  refine (c2.out w).mono ?_
  rintro e w' ⟨rfl, rfl⟩
  go_wp2_with fail
  refine (c3.out w).mono ?_
  rintro e w' ⟨rfl, rfl⟩
  go_wp2
  go_ret
  exact ⟨by have h := W2.out; simp at h ⊢; exact h, rfl⟩
end Go.Proofs.YtdggflkkojmabaaDoor

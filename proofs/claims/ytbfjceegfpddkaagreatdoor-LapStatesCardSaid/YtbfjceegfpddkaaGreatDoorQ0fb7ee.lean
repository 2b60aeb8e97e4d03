/-
  What mask.Has, mask.Of, feriaref02.Has and feriaref02.Of compute.
  What mask.Span and feriaref02.Span compute: the mask of the numbers of a span that are a step apart.
  What feriaref02.Span and feriaref02.List compute.
  What math/bits.TrailingZeros64 computes where its table is laid; mask.Least and mask.Next.
  What tod.Of, tod.Parts, tod.In, tod.Next and feriaref07.In compute.
-/
import Derived.Test.YtbfjceegfpddkaaGreatDoorQca7e2c
import Derived.Lib.TrailingZeros
namespace Go.Proofs.YtbfjceegfpddkaaGreatDoor
open Go.RowKit
set_option linter.unusedVariables false

def hasB (m : Nat) (n : Int) : Bool := decide (0 ≤ n) && m.testBit n.toNat

set_option maxHeartbeats 400000 in
theorem Has_any (m : Nat) (n : Int) (w : World) (hm : m < 18446744073709551616) : Calls Tryz.prog 70 #[.int .u64 m, .int .i64 n] w fun e w' => e = .returned (.bool (hasB m n)) ∧ w = w' := by
  have hb := fun k => has_bit (n := k) hm
  have Hb := hid hb
  have Hm := hid (fun i (hi : 64 ≤ i) => test_big hm hi)
  clear hb
  by_cases h0 : n < 0
  · have hr : Hid (hasB m n = false) := by show hasB m n = false; simp [hasB]; omega
    go_enter Tryz.func70, Tryz.ntmps70
    go_wp2
    go_ret
    rw [hr.out]; exact ⟨rfl, rfl⟩
  by_cases h1 : 64 ≤ n
  · have hr : Hid (hasB m n = false) := by show hasB m n = false; rw [hasB, Hm.out n.toNat (by omega)]; simp
    go_enter Tryz.func70, Tryz.ntmps70
    go_wp2
    go_ret
    rw [hr.out]; exact ⟨rfl, rfl⟩
  obtain ⟨k, rfl⟩ := Int.eq_ofNat_of_zero_le (by omega : 0 ≤ n)
  have hr : Hid (hasB m (k : Int) = m.testBit k) := by show hasB m (k : Int) = m.testBit k; simp [hasB]
  go_enter Tryz.func70, Tryz.ntmps70
  go_wp2
  go_ret
  rw [hr.out, Hb.out]; exact ⟨rfl, rfl⟩

/-- is k in l? -/
def inB (l : List Int) (k : Nat) : Bool := decide ((k : Int) ∈ l)
def ofM (l : List Int) : Nat := mk (inB l)
theorem inB_snoc (l : List Int) (x : Int) (k : Nat) : inB (l ++ [x]) k = (inB l k || decide ((k : Int) = x)) := by simp [inB]
theorem ofM_out (l : List Int) (x : Int) (h : x < 0 ∨ 64 ≤ x) : ofM (l ++ [x]) = ofM l :=
  mk_congr fun i hi => by rw [inB_snoc]; simp; omega
theorem ofM_in (l : List Int) (k : Nat) (h : k < 64) : ofM l ||| 2 ^ k = ofM (l ++ [(k : Int)]) := by
  refine eq_mk (or_lt (mk_lt _) (pow_lt h)) (fun i hi => ?_)
  rw [Nat.testBit_or, ofM, mk_test, inB_snoc, Nat.testBit_two_pow]
  simp [hi]
  by_cases h2 : i = k
  · subst h2; simp
  · have h3 : ¬ k = i := fun e => h2 e.symm
    have h4 : ¬ (i : Int) = (k : Int) := by omega
    simp [h3, h4]
theorem ofM_nil : ofM [] = 0 := by rw [ofM, ← mk_false]; exact mk_congr fun i _ => by simp [inB]

set_option maxHeartbeats 400000 in
theorem MOf_any (a : Option Addr) (cap : Nat) (l : List Int) (w : World) (hl : l.length ≤ 9223372036854775807) (hs : Sl w a (ints l)) :
    Calls Tryz.prog 128 #[.slice a l.length cap] w fun e w' => e = .returned (.int .u64 (ofM l)) ∧ Below w.heap.size w w' := by
  go_enter Tryz.func128, Tryz.ntmps128
  go_wp2
  go_loopw [3, 8] (fun v i wr => ∃ k : Nat, i = .int .i64 k ∧ k ≤ l.length ∧ v = .int .u64 (ofM (l.take k)) ∧ Below w.heap.size w wr) (fun _ i _ => l.length - (intOf i).toNat)
  case atStart => exact ⟨0, rfl, by omega, by rw [List.take_zero, ofM_nil]; rfl, Below.refl _ _⟩
  case round =>
    obtain ⟨k, rfl, hk, rfl, hB⟩ := hrel
    obtain ⟨M, hM⟩ : ∃ M, ofM (l.take k) = M := ⟨_, rfl⟩
    have HM := hid hM
    by_cases hlt : k < l.length
    · obtain ⟨b, off, rfl, hb, hc⟩ := hs.atInt hlt
      have e1 := (hB.cell (p := ⟨b, off + k, none⟩) hb).trans (hc k hlt)
      have ht := hid (take_snoc l k hlt)
      obtain ⟨x, hx⟩ : ∃ x, l[k] = x := ⟨_, rfl⟩
      rw [hx] at e1 ht
      rw [hM]
      have hMl : M < 18446744073709551616 := by rw [← hM]; exact mk_lt _
      clear hs hc hx hM
      by_cases h0 : x < 0
      · go_wp2
        exact ⟨⟨k + 1, by go_num, by omega, by rw [ht.out, ofM_out _ _ (.inl h0), HM.out], hB⟩, by simp [intOf]; omega⟩
      by_cases h1 : 64 ≤ x
      · go_wp2
        exact ⟨⟨k + 1, by go_num, by omega, by rw [ht.out, ofM_out _ _ (.inr h1), HM.out], hB⟩, by simp [intOf]; omega⟩
      obtain ⟨n, rfl⟩ := Int.eq_ofNat_of_zero_le (by omega : 0 ≤ x)
      have hn : n < 64 := by omega
      have hor := bits_or hMl (pow_lt hn)
      rw [← HM.out, ofM_in _ _ hn, HM.out] at hor
      have Hor := hid hor
      clear hor
      go_wp2
      exact ⟨⟨k + 1, by go_num, by omega, by rw [ht.out, wrap_pow hn, Hor.out], hB⟩, by simp [intOf]; omega⟩
    · have hke : k = l.length := by omega
      have Hke := hid hke
      clear hke hM
      go_wp2
      go_ret
      rw [Hke.out, List.take_length]
      exact ⟨rfl, hB⟩

/-! ### the document's -/
set_option maxHeartbeats 400000 in
theorem RHas_any (m : Nat) (n : Int) (w : World) (hm : m < 18446744073709551616) : Calls Tryz.prog 130 #[.int .u64 m, .int .i64 n] w fun e w' => e = .returned (.bool (hasB m n)) ∧ w = w' := by
  have Hm := hid (fun i (hi : 64 ≤ i) => test_big hm hi)
  by_cases h0 : n < 0
  · have hr : Hid (hasB m n = false) := by show hasB m n = false; simp [hasB]; omega
    go_enter Tryz.func130, Tryz.ntmps130
    go_wp2
    go_ret
    rw [hr.out]; exact ⟨rfl, rfl⟩
  by_cases h1 : 63 < n
  · have hr : Hid (hasB m n = false) := by show hasB m n = false; rw [hasB, Hm.out n.toNat (by omega)]; simp
    go_enter Tryz.func130, Tryz.ntmps130
    go_wp2
    go_ret
    rw [hr.out]; exact ⟨rfl, rfl⟩
  obtain ⟨k, rfl⟩ := Int.eq_ofNat_of_zero_le (by omega : 0 ≤ n)
  have hr : Hid (hasB m (k : Int) = m.testBit k) := by show hasB m (k : Int) = m.testBit k; simp [hasB]
  go_enter Tryz.func130, Tryz.ntmps130
  go_wp2
  go_loop [0, 5] (fun v i => ∃ j : Nat, i = .int .i64 j ∧ j ≤ k ∧ v = .int .u64 ((m / 2 ^ j : Nat) : Int)) (fun _ i => k - (intOf i).toNat)
  case atStart => exact ⟨0, rfl, by omega, by simp⟩
  case round =>
    obtain ⟨j, rfl, hj, rfl⟩ := hrel
    obtain ⟨q, hq⟩ : ∃ q, m / 2 ^ j = q := ⟨_, rfl⟩
    have Hq := hid hq
    rw [hq]
    have hql : q < 18446744073709551616 := by rw [← hq]; exact Nat.lt_of_le_of_lt (Nat.div_le_self _ _) hm
    clear hq
    by_cases hlt : j < k
    · go_wp2
      refine ⟨⟨j + 1, by go_num, by omega, ?_⟩, by simp [intOf]; omega⟩
      rw [Nat.pow_succ, ← Nat.div_div_eq_div_mul, Hq.out]
      simp
    · have hjk : j = k := by omega
      have Hjk := hid hjk
      clear hjk
      go_wp2
      go_ret
      refine ⟨ret_bool ?_, rfl⟩
      rw [hr.out, ← Hjk.out, Nat.testBit_eq_decide_div_mod_eq, Hq.out]
      rw [Bool.eq_iff_iff]
      simp
      omega

/-- one round of the document's Of: the bit n is in front -/
theorem shift_in (p : Nat → Bool) (n : Nat) : mkBits (fun i => p (n + i)) (64 - n) < 18446744073709551616 :=
  Nat.lt_of_lt_of_le (mkBits_lt _ _) (Nat.pow_le_pow_right (n := 2) (i := 64 - n) (j := 64) (by omega) (by omega))

theorem mkBits_cons (p : Nat → Bool) : ∀ (n : Nat), mkBits p (n + 1) = 2 * mkBits (fun i => p (i + 1)) n + (if p 0 then 1 else 0)
  | 0 => by simp [mkBits]
  | n + 1 => by
    rw [mkBits, mkBits_cons p n, mkBits, Nat.pow_succ]
    by_cases h : p (n + 1) = true
    · rw [if_pos h, if_pos h]; omega
    · rw [if_neg h, if_neg h]; omega

/-- what the document's Of holds when the numbers from n on are in -/
def upM (p : Nat → Bool) (n : Nat) : Nat := mkBits (fun i => p (n + i)) (64 - n)
theorem upM_step (p : Nat → Bool) (n : Nat) (h : n < 64) : upM p n = 2 * upM p (n + 1) + (if p n then 1 else 0) := by
  unfold upM
  rw [show 64 - n = (64 - (n + 1)) + 1 by omega, mkBits_cons]
  simp only [Nat.add_zero]
  congr 3
  funext i
  congr 1
  omega
theorem upM_64 (p : Nat → Bool) : upM p 64 = 0 := rfl
theorem upM_0 (p : Nat → Bool) : upM p 0 = mk p := by unfold upM mk; congr 1; funext i; rw [Nat.zero_add]
theorem upM_lt (p : Nat → Bool) (n : Nat) : upM p n < 18446744073709551616 := shift_in p n
theorem upM_half (p : Nat → Bool) (n : Nat) : 2 * upM p (n + 1) < 18446744073709551616 ∨ 64 ≤ n := by
  by_cases h : 64 ≤ n
  · exact .inr h
  · left
    have := upM_step p n (by omega)
    have h2 := upM_lt p n
    split at this <;> omega

set_option maxHeartbeats 800000 in
theorem ROf_any (a : Option Addr) (cap : Nat) (l : List Int) (w : World) (hl : l.length ≤ 9223372036854775807) (hs : Sl w a (ints l)) :
    Calls Tryz.prog 158 #[.slice a l.length cap] w fun e w' => e = .returned (.int .u64 (ofM l)) ∧ Below w.heap.size w w' := by
  go_enter Tryz.func158, Tryz.ntmps158
  go_wp2
  go_loopw [3, 4] (fun v i wr => ∃ n : Nat, n ≤ 64 ∧ i = .int .i64 ((n : Int) - 1) ∧ v = .int .u64 (upM (inB l) n) ∧ Below w.heap.size w wr) (fun _ i _ => (intOf i + 1).toNat)
  case atStart => exact ⟨64, by omega, by simp, by rw [upM_64]; rfl, Below.refl _ _⟩
  case round =>
    obtain ⟨wo, rfl⟩ : ∃ wo : World, wo = wr := ⟨_, rfl⟩
    obtain ⟨n, hn, rfl, rfl, hB⟩ := hrel
    cases n with
    | zero =>
      go_wp2
      go_ret
      rw [upM_0]
      exact ⟨rfl, hB⟩
    | succ n =>
      have hst := hid (upM_step (inB l) n (by omega))
      have hh := upM_half (inB l) n
      obtain ⟨M, hM⟩ : ∃ M, upM (inB l) (n + 1) = M := ⟨_, rfl⟩
      have HM := hid hM
      rw [hM] at hst hh ⊢
      have hM2 : 2 * M < 18446744073709551616 := by omega
      have e1 : ((n + 1 : Nat) : Int) - 1 = (n : Int) := by omega
      rw [e1]
      clear hM e1
      go_wp2
      go_loopw [3, 5] (fun v i wr => ∃ j : Nat, i = .int .i64 j ∧ j ≤ l.length ∧ v = .int .u64 (2 * (M : Int)) ∧ (∀ t, (h : t < j) → (h2 : t < l.length) → l[t] ≠ (n : Int)) ∧ Below w.heap.size w wr) (fun _ i _ => l.length - (intOf i).toNat)
      case atStart => exact ⟨0, rfl, by omega, rfl, fun t h => by omega, hB⟩
      case round =>
        obtain ⟨j, rfl, hj, rfl, hno, hB2⟩ := hrel
        have Hno := hid hno
        clear hno hB
        by_cases hlt : j < l.length
        · obtain ⟨b, off, rfl, hb, hc⟩ := hs.atInt hlt
          have e1 := (hB2.cell (p := ⟨b, off + j, none⟩) hb).trans (hc j hlt)
          obtain ⟨x, hx⟩ : ∃ x, l[j] = x := ⟨_, rfl⟩
          rw [hx] at e1
          have Hx := hid hx
          clear hs hc hx
          by_cases hxn : x = (n : Int)
          · have hb1 : (x == (n : Int)) = true := by simp [hxn]
            have Hxn := hid hxn
            have hin : inB l n = true := by simp only [inB, decide_eq_true_eq]; rw [← hxn, ← Hx.out]; exact List.getElem_mem _
            have hst2 := hst.out
            rw [hin, if_pos rfl] at hst2
            have Hst := hid hst2
            have hml := upM_lt (inB l) n
            rw [hst2] at hml
            clear hxn hin hst2
            go_wp2
            refine ⟨⟨n, by omega, by go_num, ?_, hB2⟩, by simp [intOf]⟩
            rw [Hst.out]; go_num
          · have hb1 : (x == (n : Int)) = false := by simp [hxn]
            have Hxn := hid hxn
            clear hxn
            go_wp2
            refine ⟨⟨j + 1, by go_num, by omega, rfl, ?_, hB2⟩, by simp [intOf]; omega⟩
            intro t ht ht2
            by_cases htj : t = j
            · subst htj; rw [Hx.out]; exact Hxn.out
            · exact Hno.out t (by omega) ht2
        · have hin : inB l n = false := by
            simp only [inB, decide_eq_false_iff_not]
            intro hm
            obtain ⟨t, ht, he⟩ := List.getElem_of_mem hm
            exact Hno.out t (by omega) ht he
          have hst2 := hst.out
          rw [hin] at hst2
          have Hst := hid hst2
          clear hin hst2
          go_wp2
          refine ⟨⟨n, by omega, by go_num, ?_, hB2⟩, by simp [intOf]⟩
          rw [Hst.out]; simp
end Go.Proofs.YtbfjceegfpddkaaGreatDoor
namespace Go.Proofs.YtbfjceegfpddkaaGreatDoor
open Go.RowKit
set_option linter.unusedVariables false

/-- k is one of a span's numbers -/
def spanB (f t s : Int) (k : Nat) : Bool := decide (1 ≤ s ∧ f ≤ (k : Int) ∧ (k : Int) ≤ t ∧ ((k : Int) - f) % s = 0)
def spanM (f t s : Int) : Nat := mk (spanB f t s)
/-- those below n -/
def spanTo (f t s : Int) (n : Nat) : Nat := mk (fun k => spanB f t s k && decide (k < n))
theorem spanTo_lt (f t s : Int) (n : Nat) : spanTo f t s n < 18446744073709551616 := mk_lt _

theorem mod_between {a b s : Int} (hs : 1 ≤ s) (ha : a % s = 0) (hb : b % s = 0) (h1 : a < b) (h2 : b < a + s) : False := by
  have h := Int.emod_emod_of_dvd (b - a) (Int.dvd_refl s)
  have h3 : (b - a) % s = 0 := by rw [Int.sub_emod, ha, hb]; simp
  have h4 : (b - a) % s = b - a := Int.emod_eq_of_lt (by omega) (by omega)
  omega

theorem spanTo_step (f t s : Int) (n : Nat) (hs : 1 ≤ s) (h64 : n < 64) (hf : f ≤ (n : Int)) (ht : (n : Int) ≤ t) (hm : ((n : Int) - f) % s = 0) (q : Nat) (hq : (q : Int) = n + s ∨ 64 ≤ q ∧ (q : Int) ≤ n + s) :
    spanTo f t s n ||| 2 ^ n = spanTo f t s q := by
  refine eq_mk (or_lt (mk_lt _) (pow_lt h64)) (fun k hk => ?_)
  rw [Nat.testBit_or, spanTo, mk_test, Nat.testBit_two_pow]
  by_cases hkn : n = k
  · subst hkn
    have : spanB f t s n = true := by simp only [spanB, decide_eq_true_eq]; exact ⟨hs, hf, ht, hm⟩
    simp [this]
    omega
  · rcases Nat.lt_or_gt_of_ne hkn with h | h
    · by_cases hb : spanB f t s k = true
      · simp only [spanB, decide_eq_true_eq] at hb
        have hbq : ¬ (k : Int) < n + s := fun h2 => mod_between hs hm hb.2.2.2 (by omega) (by omega)
        have e1 : ¬ k < n := by omega
        have e2 : ¬ k < q := by omega
        simp [hkn, e1, e2]
      · simp [hb, hkn]
    · have e1 : k < n := h
      have e2 : k < q := by omega
      simp [hkn, e1, e2, hk]

theorem spanTo_all (f t s : Int) (n : Nat) (h : 64 ≤ n ∨ t < (n : Int)) : spanTo f t s n = spanM f t s :=
  mk_congr fun k hk => by
    rcases h with h | h
    · simp [show k < n by omega]
    · by_cases hb : spanB f t s k = true
      · simp only [spanB, decide_eq_true_eq] at hb
        simp [show k < n by omega]
      · simp [hb]

/-- at the beginning: no number of the span lies below n -/
theorem spanTo_start (f t s : Int) (n : Nat) (hs : 1 ≤ s) (hm : ((n : Int) - f) % s = 0) (h : (n : Int) = f ∨ (n : Int) < s) : spanTo f t s n = 0 := by
  rw [← mk_false]
  refine mk_congr fun k hk => ?_
  by_cases hb : spanB f t s k = true
  · simp only [spanB, decide_eq_true_eq] at hb
    have : ¬ k < n := by
      intro hkn
      rcases h with h | h
      · omega
      · exact mod_between hs hb.2.2.2 hm (by omega) (by omega)
    simp [this]
  · simp [hb]

theorem span_none (f t s : Int) (h : s < 1) : spanM f t s = 0 := by
  rw [spanM, ← mk_false]
  exact mk_congr fun k _ => by simp [spanB]; omega

set_option maxHeartbeats 800000 in
theorem Span_any (f t s : Int) (w : World) (hf : -9223372036854775808 ≤ f ∧ f ≤ 9223372036854775807) (hsm : s ≤ 9223372036854775807) :
    Calls Tryz.prog 132 #[.int .i64 f, .int .i64 t, .int .i64 s] w fun e w' => e = .returned (.int .u64 (spanM f t s)) ∧ w = w' := by
  obtain ⟨hf1, hf2⟩ := hf
  by_cases hs : s < 1
  · have hr := hid (span_none f t s hs)
    go_enter Tryz.func132, Tryz.ntmps132
    go_wp2
    go_ret
    rw [hr.out]; exact ⟨rfl, rfl⟩
  by_cases h0 : f < 0
  · obtain ⟨r, hr⟩ : ∃ r, (f + 1).tmod s = r := ⟨_, rfl⟩
    have hr1 : -s < r ∧ r ≤ 0 := by
      subst hr
      rw [show f + 1 = -(-(f + 1)) by omega, Int.neg_tmod, Int.tmod_eq_emod_of_nonneg (by omega)]
      have := Int.emod_nonneg (-(f + 1)) (show s ≠ 0 by omega)
      have := Int.emod_lt_of_pos (-(f + 1)) (show 0 < s by omega)
      omega
    obtain ⟨n0, hn0⟩ := Int.eq_ofNat_of_zero_le (show 0 ≤ r - 1 + s by omega)
    have hmod : ((n0 : Int) - f) % s = 0 := by
      rw [← hn0, ← hr]
      have := Int.tmod_add_mul_tdiv (f + 1) s
      rw [show (f + 1).tmod s - 1 + s - f = s * (1 - (f + 1).tdiv s) by rw [Int.mul_sub]; omega]
      exact Int.mul_emod_right _ _
    have Hst := hid (spanTo_start f t s n0 (by omega) hmod (.inr (by omega)))
    have Hmod := hid hmod
    have Hn0 := hid hn0
    have hn1 : f ≤ (n0 : Int) := by omega
    have hn2 : (n0 : Int) < s := by omega
    obtain ⟨hr2, hr3⟩ := hr1
    clear hmod hn0
    go_enter Tryz.func132, Tryz.ntmps132
    go_wp2
    rw [Hn0.out]
    go_loop [7, 8] (fun v i => ∃ n : Nat, i = .int .i64 n ∧ v = .int .u64 (spanTo f t s n) ∧ f ≤ (n : Int) ∧ ((n : Int) - f) % s = 0) (fun _ i => (64 - intOf i).toNat)
    case atStart => exact ⟨n0, rfl, by rw [Hst.out]; rfl, hn1, Hmod.out⟩
    case round =>
      obtain ⟨n, rfl, rfl, hfn, hm⟩ := hrel
      have Hm := hid hm
      have Hall := hid (spanTo_all f t s n)
      obtain ⟨M, hM⟩ : ∃ M, spanTo f t s n = M := ⟨_, rfl⟩
      have HM := hid hM
      rw [hM] at Hall ⊢
      have hMl : M < 18446744073709551616 := by rw [← hM]; exact mk_lt _
      clear hM hm
      by_cases h64 : 64 ≤ n
      · have hr := hid (Hall.out (.inl h64))
        go_wp2
        go_ret
        rw [hr.out]; exact ⟨rfl, rfl⟩
      by_cases hnt : t < (n : Int)
      · have hr := hid (Hall.out (.inr hnt))
        go_wp2
        go_ret
        rw [hr.out]; exact ⟨rfl, rfl⟩
      have hn64 : n < 64 := by omega
      have hor := hid (bits_or hMl (pow_lt hn64))
      by_cases h65 : 64 ≤ s
      · have hst := spanTo_step f t s n (by omega) hn64 hfn (by omega) Hm.out 64 (.inr ⟨by omega, by omega⟩)
        have hr : Hid (M ||| 2 ^ n = spanM f t s) := by show M ||| 2 ^ n = spanM f t s; rw [← HM.out, hst]; exact spanTo_all f t s 64 (.inl (by omega))
        clear hst
        go_wp2
        go_ret
        rw [wrap_pow hn64, hor.out, hr.out]; exact ⟨rfl, rfl⟩
      · obtain ⟨q, hq⟩ := Int.eq_ofNat_of_zero_le (show 0 ≤ (n : Int) + s by omega)
        have hst := hid (spanTo_step f t s n (by omega) hn64 hfn (by omega) Hm.out q (.inl hq.symm))
        have hq2 : ((q : Int) - f) % s = 0 := by rw [← hq, show (n : Int) + s - f = ((n : Int) - f) + s by omega, Int.add_emod, Hm.out]; simp
        have Hq := hid hq
        have Hq2 := hid hq2
        have hq3 : f ≤ (q : Int) := by omega
        have hq4 : (64 - ((n : Int) + s)).toNat < (64 - (n : Int)).toNat := by omega
        clear hq hq2
        go_wp2
        refine ⟨⟨q, by rw [Hq.out], ?_, hq3, Hq2.out⟩, by simp only [intOf]; exact hq4⟩
        rw [wrap_pow hn64, hor.out, ← HM.out, hst.out]
  · obtain ⟨n0, rfl⟩ := Int.eq_ofNat_of_zero_le (by omega : 0 ≤ f)
    have hmod : ((n0 : Int) - (n0 : Int)) % s = 0 := by simp
    have Hst := hid (spanTo_start (n0 : Int) t s n0 (by omega) hmod (.inl rfl))
    have Hmod := hid hmod
    have hn1 : (n0 : Int) ≤ (n0 : Int) := by omega
    clear hmod
    go_enter Tryz.func132, Tryz.ntmps132
    go_wp2
    go_loop [7, 8] (fun v i => ∃ n : Nat, i = .int .i64 n ∧ v = .int .u64 (spanTo (n0 : Int) t s n) ∧ (n0 : Int) ≤ (n : Int) ∧ ((n : Int) - (n0 : Int)) % s = 0) (fun _ i => (64 - intOf i).toNat)
    case atStart => exact ⟨n0, rfl, by rw [Hst.out]; rfl, hn1, Hmod.out⟩
    case round =>
      obtain ⟨n, rfl, rfl, hfn, hm⟩ := hrel
      have Hm := hid hm
      have Hall := hid (spanTo_all (n0 : Int) t s n)
      obtain ⟨M, hM⟩ : ∃ M, spanTo (n0 : Int) t s n = M := ⟨_, rfl⟩
      have HM := hid hM
      rw [hM] at Hall ⊢
      have hMl : M < 18446744073709551616 := by rw [← hM]; exact mk_lt _
      clear hM hm
      by_cases h64 : 64 ≤ n
      · have hr := hid (Hall.out (.inl h64))
        go_wp2
        go_ret
        rw [hr.out]; exact ⟨rfl, rfl⟩
      by_cases hnt : t < (n : Int)
      · have hr := hid (Hall.out (.inr hnt))
        go_wp2
        go_ret
        rw [hr.out]; exact ⟨rfl, rfl⟩
      have hn64 : n < 64 := by omega
      have hor := hid (bits_or hMl (pow_lt hn64))
      by_cases h65 : 64 ≤ s
      · have hst := spanTo_step (n0 : Int) t s n (by omega) hn64 hfn (by omega) Hm.out 64 (.inr ⟨by omega, by omega⟩)
        have hr : Hid (M ||| 2 ^ n = spanM (n0 : Int) t s) := by show M ||| 2 ^ n = spanM (n0 : Int) t s; rw [← HM.out, hst]; exact spanTo_all (n0 : Int) t s 64 (.inl (by omega))
        clear hst
        go_wp2
        go_ret
        rw [wrap_pow hn64, hor.out, hr.out]; exact ⟨rfl, rfl⟩
      · obtain ⟨q, hq⟩ := Int.eq_ofNat_of_zero_le (show 0 ≤ (n : Int) + s by omega)
        have hst := hid (spanTo_step (n0 : Int) t s n (by omega) hn64 hfn (by omega) Hm.out q (.inl hq.symm))
        have hq2 : ((q : Int) - (n0 : Int)) % s = 0 := by rw [← hq, show (n : Int) + s - (n0 : Int) = ((n : Int) - (n0 : Int)) + s by omega, Int.add_emod, Hm.out]; simp
        have Hq := hid hq
        have Hq2 := hid hq2
        have hq3 : (n0 : Int) ≤ (q : Int) := by omega
        have hq4 : (64 - ((n : Int) + s)).toNat < (64 - (n : Int)).toNat := by omega
        clear hq hq2
        go_wp2
        refine ⟨⟨q, by rw [Hq.out], ?_, hq3, Hq2.out⟩, by simp only [intOf]; exact hq4⟩
        rw [wrap_pow hn64, hor.out, ← HM.out, hst.out]
end Go.Proofs.YtbfjceegfpddkaaGreatDoor
namespace Go.Proofs.YtbfjceegfpddkaaGreatDoor
open Go.RowKit
set_option linter.unusedVariables false

theorem eInt : El Tryz.prog 57 3 (.int .i64 0) 1 8 := ⟨Tryz.underlying57, by kernel_rfl, by kernel_rfl, by decide⟩

/-- the numbers below n of which p holds, rising -/
def sel (p : Nat → Bool) (n : Nat) : List Int := ((List.range n).filter p).map (fun (k : Nat) => (k : Int))
theorem sel_zero (p : Nat → Bool) : sel p 0 = [] := rfl
theorem sel_yes {p : Nat → Bool} {n : Nat} (h : p n = true) : sel p (n + 1) = sel p n ++ [(n : Int)] := by simp [sel, List.range_succ, h]
theorem sel_no {p : Nat → Bool} {n : Nat} (h : p n = false) : sel p (n + 1) = sel p n := by simp [sel, List.range_succ, h]
theorem sel_len (p : Nat → Bool) (n : Nat) : (sel p n).length ≤ n := by
  simp only [sel, List.length_map]
  exact Nat.le_trans (List.length_filter_le _ _) (by simp)
theorem sel_mem {p : Nat → Bool} {n : Nat} {x : Int} : x ∈ sel p n ↔ ∃ k : Nat, k < n ∧ p k = true ∧ x = (k : Int) := by
  simp only [sel, List.mem_map, List.mem_filter, List.mem_range]
  constructor
  · rintro ⟨k, ⟨h1, h2⟩, rfl⟩; exact ⟨k, h1, h2, rfl⟩
  · rintro ⟨k, h1, h2, rfl⟩; exact ⟨k, ⟨h1, h2⟩, rfl⟩
theorem ofM_sel (p : Nat → Bool) : ofM (sel p 64) = mk p :=
  mk_congr fun i hi => by
    rw [Bool.eq_iff_iff, inB, decide_eq_true_eq, sel_mem]
    constructor
    · rintro ⟨k, _, h, e⟩
      obtain rfl : i = k := by omega
      exact h
    · intro h; exact ⟨i, hi, h, rfl⟩

theorem tmod_bd {f s : Int} (hs : 1 ≤ s) : -s < f.tmod s ∧ f.tmod s < s ∧ (f.tmod s < 0 → f % s = f.tmod s + s) ∧ (0 ≤ f.tmod s → f % s = f.tmod s) := by
  have h1 := Int.emod_nonneg f (show s ≠ 0 by omega)
  have h2 := Int.emod_lt_of_pos f (show 0 < s by omega)
  have h3 := Int.tmod_add_mul_tdiv f s
  have h4 : -s < f.tmod s ∧ f.tmod s < s := by
    by_cases h : 0 ≤ f
    · rw [Int.tmod_eq_emod_of_nonneg h]; omega
    · rw [show f = -(-f) by omega, Int.neg_tmod, Int.tmod_eq_emod_of_nonneg (by omega)]
      have := Int.emod_nonneg (-f) (show s ≠ 0 by omega)
      have := Int.emod_lt_of_pos (-f) (show 0 < s by omega)
      omega
  refine ⟨h4.1, h4.2, fun h => ?_, fun h => ?_⟩
  · rw [← h3, Int.add_mul_emod_self_left]
    have : (f.tmod s + s) % s = f.tmod s + s := Int.emod_eq_of_lt (by omega) (by omega)
    rw [h3, ← this, Int.add_emod_right]
  · rw [← h3, Int.add_mul_emod_self_left, h3]
    exact Int.emod_eq_of_lt h (by omega)

/-- the document's test is the program's -/
theorem spanB_iff {f t s : Int} {n : Nat} (hs : 1 ≤ s) : spanB f t s n = (decide (f ≤ (n : Int)) && decide ((n : Int) ≤ t) && ((n : Int) % s == f % s)) := by
  have e : ((n : Int) - f) % s = 0 ↔ (n : Int) % s = f % s := by
    rw [← Int.emod_eq_emod_iff_emod_sub_eq_zero]
  rw [Bool.eq_iff_iff]
  simp [spanB, hs, e, and_assoc]

end Go.Proofs.YtbfjceegfpddkaaGreatDoor
namespace Go.Proofs.YtbfjceegfpddkaaGreatDoor
open Go.RowKit
set_option linter.unusedVariables false

/-- the table of math/bits lies as its text lays it -/
def Tab (w : World) : Prop := 0 < w.heap.size ∧ ∀ i, i < 64 → w.cell? ⟨0, i, none⟩ = some (.int .u8 ((Lib.deBruijn64tab.getD i 0 : Nat) : Int))
theorem Tab.below {w w' : World} {B : Nat} (h : Tab w) (hb : Below B w w') (hB : 0 < B) : Tab w' :=
  ⟨Nat.lt_of_lt_of_le h.1 hb.size, fun i hi => (hb.cell (p := ⟨0, i, none⟩) hB).trans (h.2 i hi)⟩
theorem Tab.later {w w' : World} (h : Tab w) (hb : Below w.heap.size w w') : Tab w' := h.below hb h.1

/-- the least bit of x -/
def lsb (x : Nat) : Nat := Lib.ctz 64 x
theorem lsb_spec {x : Nat} (h0 : x ≠ 0) (hx : x < 18446744073709551616) : lsb x < 64 ∧ x.testBit (lsb x) = true ∧ ∀ i, i < lsb x → x.testBit i = false := by
  obtain ⟨m, hm, hk⟩ := Lib.ctzFrom_spec 64 x (by omega) hx
  have e : lsb x = Lib.ctzFrom 64 x := by simp [lsb, Lib.ctz, h0]
  rw [e]
  obtain ⟨k, hk2⟩ : ∃ k, Lib.ctzFrom 64 x = k := ⟨_, rfl⟩
  rw [hk2] at hm hk ⊢
  subst hm
  refine ⟨hk, ?_, fun i hi => ?_⟩
  · rw [Nat.mul_comm, Nat.testBit_mul_two_pow]; simp
  · rw [Nat.mul_comm, Nat.testBit_mul_two_pow]; simp; omega

set_option maxHeartbeats 800000 in
theorem Tz_any (x : Nat) (w : World) (h0 : x ≠ 0) (hx : x < 18446744073709551616) (hT : Tab w) :
    Calls Tryz.prog 157 #[.int .u64 x] w fun e w' => e = .returned (.int .i64 (lsb x)) ∧ w = w' := by
  obtain ⟨hl, hk⟩ := Lib.lowest_bit 64 x h0 hx
  have hk64 : lsb x < 64 := hk
  obtain ⟨hd1, hd2⟩ := Lib.deBruijn64_at _ hk
  obtain ⟨q, hq⟩ : ∃ q, 2 ^ Lib.ctz 64 x * 285870213051353865 % 18446744073709551616 / 288230376151711744 = q := ⟨_, rfl⟩
  rw [hq] at hd1 hd2
  have hcell := hT.2 q hd1
  rw [hd2] at hcell
  have hz : ((x : Int) == 0) = false := by simp; omega
  have hneg : IntKind.u64.wrap (-(x : Int)) = ((18446744073709551616 - x : Nat) : Int) := by rw [IntKind.wrap_u64]; omega
  have hand := bits_and hx (b := 18446744073709551616 - x) (by omega)
  have hidx : IntKind.u64.wrap (bits .and .u64 (x : Int) (IntKind.u64.wrap (-(x : Int))) * 285870213051353865) / 288230376151711744 = (q : Int) := by
    rw [hneg, hand, show (18446744073709551616 : Nat) - x = 2 ^ 64 - x from rfl, hl, IntKind.wrap_u64, ← hq]
    generalize 2 ^ Lib.ctz 64 x = y
    omega
  have hk2 : Lib.ctz 64 x < 64 := hk
  clear hneg hand hl hd2 hq hT hk h0
  go_enter Tryz.func157, Tryz.ntmps157
  go_wp2
  go_ret
  exact ⟨rfl, rfl⟩

/-- the least bit, as Go answers it -/
def leastI (m : Nat) : Int := if m = 0 then 0 else (lsb m : Int)
def leastB (m : Nat) : Bool := decide (m ≠ 0)

set_option maxHeartbeats 400000 in
theorem Least_any (m : Nat) (w : World) (hm : m < 18446744073709551616) (hT : Tab w) :
    Calls Tryz.prog 146 #[.int .u64 m] w fun e w' => e = .returned (.tuple #[.int .i64 (leastI m), .bool (leastB m)]) ∧ w = w' := by
  by_cases h0 : m = 0
  · subst h0
    go_enter Tryz.func146, Tryz.ntmps146
    go_wp2
    go_ret2
    exact ⟨rfl, rfl⟩
  · have h1 : Hid (leastI m = (lsb m : Int)) := if_neg h0
    have h2 : Hid (leastB m = true) := by show leastB m = true; simp [leastB, h0]
    have hz : ((m : Int) == 0) = false := by simp; omega
    have Hc := hid (Tz_any m w h0 hm hT)
    clear h0
    go_enter Tryz.func146, Tryz.ntmps146
    go_wp2_with (go_at_call 157; refine Hc.out.mono ?_; rintro e w' ⟨rfl, rfl⟩)
    go_ret2
    rw [h1.out, h2.out]
    exact ⟨rfl, rfl⟩

/-- the bits of m from n on -/
def fromM (m n : Nat) : Nat := m / 2 ^ n * 2 ^ n
theorem fromM_lt {m n : Nat} (hm : m < 18446744073709551616) : fromM m n < 18446744073709551616 := Nat.lt_of_le_of_lt (Nat.div_mul_le_self _ _) hm
theorem fromM_test (m n i : Nat) : (fromM m n).testBit i = (decide (n ≤ i) && m.testBit i) := by
  rw [fromM, Nat.testBit_mul_two_pow, Nat.testBit_div_two_pow]
  by_cases h : n ≤ i
  · simp [h]
  · simp [h]

/-- what is left of m above n -/
def aboveM (m : Nat) (n : Int) : Nat := if n < 0 then m else if 63 ≤ n then 0 else fromM m (n.toNat + 1)
theorem aboveM_lt {m : Nat} {n : Int} (hm : m < 18446744073709551616) : aboveM m n < 18446744073709551616 := by
  unfold aboveM; split
  · exact hm
  · split
    · omega
    · exact fromM_lt hm
theorem aboveM_test {m : Nat} (n : Int) (i : Nat) (hm : m < 18446744073709551616) : (aboveM m n).testBit i = (decide (n < (i : Int)) && m.testBit i) := by
  unfold aboveM; split
  · simp; omega
  · split
    · by_cases h : 64 ≤ i
      · rw [test_big hm h]; simp
      · simp; omega
    · rw [fromM_test]
      congr 1
      simp; omega

set_option maxHeartbeats 400000 in
theorem Next_any (m : Nat) (n : Int) (w : World) (hm : m < 18446744073709551616) (hT : Tab w) :
    Calls Tryz.prog 160 #[.int .u64 m, .int .i64 n] w fun e w' => e = .returned (.tuple #[.int .i64 (leastI (aboveM m n)), .bool (leastB (aboveM m n))]) ∧ w = w' := by
  by_cases h0 : n < 0
  · have h1 : Hid (aboveM m n = m) := if_pos h0
    rw [h1.out]
    have Hc := hid (Least_any m w hm hT)
    go_enter Tryz.func160, Tryz.ntmps160
    go_wp2_with (go_at_call 146; refine Hc.out.mono ?_; rintro e w' ⟨rfl, rfl⟩)
    go_ret2
    exact ⟨rfl, rfl⟩
  by_cases h1 : 63 ≤ n
  · have h2 : Hid (aboveM m n = 0) := by show aboveM m n = 0; rw [aboveM, if_neg h0, if_pos h1]
    rw [h2.out]
    go_enter Tryz.func160, Tryz.ntmps160
    go_wp2
    go_ret2
    exact ⟨rfl, rfl⟩
  · obtain ⟨k, rfl⟩ := Int.eq_ofNat_of_zero_le (by omega : 0 ≤ n)
    have h2 : aboveM m (k : Int) = fromM m (k + 1) := by rw [aboveM, if_neg h0, if_neg h1]; rfl
    rw [h2]
    have Hc := hid (Least_any (fromM m (k + 1)) w (fromM_lt hm) hT)
    have hw : IntKind.u64.wrap ((m : Int) / 2 ^ (k + 1) * 2 ^ (k + 1)) = ((fromM m (k + 1) : Nat) : Int) := by
      have e : ((m : Int) / 2 ^ (k + 1) * 2 ^ (k + 1)) = ((fromM m (k + 1) : Nat) : Int) := by simp [fromM]
      rw [e]; exact wrap_nat (fromM_lt hm)
    clear h2
    go_enter Tryz.func160, Tryz.ntmps160
    go_wp2_with fail
    refine Hc.out.mono ?_
    rintro e w' ⟨rfl, rfl⟩
    go_wp2
    go_ret2
    exact ⟨rfl, rfl⟩

theorem bits_andNot {a b : Nat} (ha : a < 18446744073709551616) (hb : b < 18446744073709551616) : bits .andNot .u64 (a : Int) (b : Int) = ((mk (fun k => a.testBit k && !b.testBit k) : Nat) : Int) := by
  show IntKind.u64.wrap ((BitVec.ofInt 64 (a : Int) &&& ~~~BitVec.ofInt 64 (b : Int)).toNat : Int) = _
  have hl : (BitVec.ofInt 64 (a : Int) &&& ~~~BitVec.ofInt 64 (b : Int)).toNat < 18446744073709551616 := BitVec.isLt _
  rw [wrap_nat hl]
  congr 1
  refine eq_mk hl (fun i hi => ?_)
  rw [BitVec.testBit_toNat, BitVec.getLsbD_and, BitVec.getLsbD_not, ← BitVec.testBit_toNat, ← BitVec.testBit_toNat, ofInt_nat ha, ofInt_nat hb]
  simp [hi]

end Go.Proofs.YtbfjceegfpddkaaGreatDoor
namespace Go.Proofs.YtbfjceegfpddkaaGreatDoor
open Go.RowKit
set_option linter.unusedVariables false

def todB (h m s : Int) : Bool := decide (0 ≤ h ∧ h < 24 ∧ 0 ≤ m ∧ m < 60 ∧ 0 ≤ s ∧ s < 60)
def todI (h m s : Int) : Int := if todB h m s = true then h * 3600 + m * 60 + s else 0
theorem tod_no {h m s : Int} (hn : ¬ (0 ≤ h ∧ h < 24 ∧ 0 ≤ m ∧ m < 60 ∧ 0 ≤ s ∧ s < 60)) : todI h m s = 0 ∧ todB h m s = false := by
  have : todB h m s = false := by simpa only [todB, decide_eq_false_iff_not] using hn
  exact ⟨by rw [todI, this]; simp, this⟩
theorem tod_yes {h m s : Int} (hn : 0 ≤ h ∧ h < 24 ∧ 0 ≤ m ∧ m < 60 ∧ 0 ≤ s ∧ s < 60) : todI h m s = h * 3600 + m * 60 + s ∧ todB h m s = true := by
  have : todB h m s = true := by simpa only [todB, decide_eq_true_eq] using hn
  exact ⟨by rw [todI, if_pos this], this⟩

/-- s is a second of the day -/
def dayB (s : Int) : Bool := decide (0 ≤ s ∧ s < 86400)
theorem day_cases (s : Int) : (dayB s = true ∧ 0 ≤ s ∧ s < 86400) ∨ (dayB s = false ∧ (s < 0 ∨ 86400 ≤ s)) := by
  by_cases h : 0 ≤ s ∧ s < 86400
  · exact .inl ⟨by simpa only [dayB, decide_eq_true_eq] using h, h.1, h.2⟩
  · exact .inr ⟨by simpa only [dayB, decide_eq_false_iff_not] using h, by omega⟩

set_option maxHeartbeats 400000 in
theorem Parts_no (s : Int) (w : World) (h : s < 0 ∨ 86400 ≤ s) : Calls Tryz.prog 127 #[.int .i64 s] w fun e w' => e = .returned (.tuple #[.int .i64 0, .int .i64 0, .int .i64 0, .bool false]) ∧ w = w' := by
  rcases h with h | h
  · go_enter Tryz.func127, Tryz.ntmps127
    go_wp2
    exact bodyPost_ret (v := .tuple #[.int .i64 0, .int .i64 0, .int .i64 0, .bool false]) (by simp [results, Tryz.results127, go_sem]) rfl ⟨rfl, rfl⟩
  · go_enter Tryz.func127, Tryz.ntmps127
    go_wp2
    exact bodyPost_ret (v := .tuple #[.int .i64 0, .int .i64 0, .int .i64 0, .bool false]) (by simp [results, Tryz.results127, go_sem]) rfl ⟨rfl, rfl⟩
set_option maxHeartbeats 400000 in
theorem Parts_yes (s : Int) (w : World) (h0 : 0 ≤ s) (h1 : s < 86400) : Calls Tryz.prog 127 #[.int .i64 s] w fun e w' => e = .returned (.tuple #[.int .i64 (s / 3600), .int .i64 (s / 60 % 60), .int .i64 (s % 60), .bool true]) ∧ w = w' := by
  go_enter Tryz.func127, Tryz.ntmps127
  go_wp2
  exact bodyPost_ret (v := .tuple #[.int .i64 (s / 3600), .int .i64 (s / 60 % 60), .int .i64 (s % 60), .bool true]) (by simp [results, Tryz.results127, go_sem]) rfl ⟨rfl, rfl⟩

/-- s is one of the masks' seconds -/
def todIn (s : Int) (hs ms ss : Nat) : Bool := dayB s && (hasB hs (s / 3600) && (hasB ms (s / 60 % 60) && hasB ss (s % 60)))

end Go.Proofs.YtbfjceegfpddkaaGreatDoor

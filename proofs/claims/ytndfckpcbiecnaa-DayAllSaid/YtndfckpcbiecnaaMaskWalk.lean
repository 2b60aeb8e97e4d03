/-
  What mask.Has, mask.Of, feriaref02.Has and feriaref02.Of compute.
-/
import Derived.Test.YtndfckpcbiecnaaMask
namespace Go.Proofs.Ytndfckpcbiecnaa
open Go.RowKit
set_option linter.unusedVariables false

def hasB (m : Nat) (n : Int) : Bool := decide (0 ≤ n) && m.testBit n.toNat

set_option maxHeartbeats 400000 in
theorem Has_any (m : Nat) (n : Int) (w : World) (hm : m < 18446744073709551616) : Calls Try.prog 104 #[.int .u64 m, .int .i64 n] w fun e w' => e = .returned (.bool (hasB m n)) ∧ w = w' := by
  have hb := fun k => has_bit (n := k) hm
  have Hb := hid hb
  have Hm := hid (fun i (hi : 64 ≤ i) => test_big hm hi)
  clear hb
  by_cases h0 : n < 0
  · have hr : Hid (hasB m n = false) := by show hasB m n = false; simp [hasB]; omega
    go_enter Try.func104, Try.ntmps104
    go_wp2
    go_ret
    rw [hr.out]; exact ⟨rfl, rfl⟩
  by_cases h1 : 64 ≤ n
  · have hr : Hid (hasB m n = false) := by show hasB m n = false; rw [hasB, Hm.out n.toNat (by omega)]; simp
    go_enter Try.func104, Try.ntmps104
    go_wp2
    go_ret
    rw [hr.out]; exact ⟨rfl, rfl⟩
  obtain ⟨k, rfl⟩ := Int.eq_ofNat_of_zero_le (by omega : 0 ≤ n)
  have hr : Hid (hasB m (k : Int) = m.testBit k) := by show hasB m (k : Int) = m.testBit k; simp [hasB]
  go_enter Try.func104, Try.ntmps104
  go_wp2
  go_ret
  rw [hr.out, Hb.out]; exact ⟨rfl, rfl⟩

/-- is k in l? -/
def inB (l : List Int) (k : Nat) : Bool := decide ((k : Int) ∈ l)
def ofM (l : List Int) : Nat := mk (inB l)
theorem inB_snoc (l : List Int) (x : Int) (k : Nat) : inB (l ++ [x]) k = (inB l k || decide ((k : Int) = x)) := by simp [inB]
theorem ofM_out (l : List Int) (x : Int) (h : x < 0 ∨ 64 ≤ x) : ofM (l ++ [x]) = ofM l :=
  mk_congr fun i hi => by rw [inB_snoc]; simp; omega
theorem ofM_in (l : List Int) (k : Nat) (h : k < 64) : ofM l ||| 2 ^ k = ofM (l ++ [(k : Int)]) := by
  refine eq_mk (or_lt (mk_lt _) (pow_lt h)) (fun i hi => ?_)
  rw [Nat.testBit_or, ofM, mk_test, inB_snoc, Nat.testBit_two_pow]
  simp [hi]
  by_cases h2 : i = k
  · subst h2; simp
  · have h3 : ¬ k = i := fun e => h2 e.symm
    have h4 : ¬ (i : Int) = (k : Int) := by omega
    simp [h3, h4]
theorem ofM_nil : ofM [] = 0 := by rw [ofM, ← mk_false]; exact mk_congr fun i _ => by simp [inB]

set_option maxHeartbeats 400000 in
theorem MOf_any (a : Option Addr) (cap : Nat) (l : List Int) (w : World) (hl : l.length ≤ 9223372036854775807) (hs : Sl w a (ints l)) :
    Calls Try.prog 82 #[.slice a l.length cap] w fun e w' => e = .returned (.int .u64 (ofM l)) ∧ Below w.heap.size w w' := by
  go_enter Try.func82, Try.ntmps82
  go_wp2
  go_loopw [3, 8] (fun v i wr => ∃ k : Nat, i = .int .i64 k ∧ k ≤ l.length ∧ v = .int .u64 (ofM (l.take k)) ∧ Below w.heap.size w wr) (fun _ i _ => l.length - (intOf i).toNat)
  case atStart => exact ⟨0, rfl, by omega, by rw [List.take_zero, ofM_nil]; rfl, Below.refl _ _⟩
  case round =>
    obtain ⟨k, rfl, hk, rfl, hB⟩ := hrel
    obtain ⟨M, hM⟩ : ∃ M, ofM (l.take k) = M := ⟨_, rfl⟩
    have HM := hid hM
    by_cases hlt : k < l.length
    · obtain ⟨b, off, rfl, hb, hc⟩ := hs.atInt hlt
      have e1 := (hB.cell (p := ⟨b, off + k, none⟩) hb).trans (hc k hlt)
      have ht := hid (take_snoc l k hlt)
      obtain ⟨x, hx⟩ : ∃ x, l[k] = x := ⟨_, rfl⟩
      rw [hx] at e1 ht
      rw [hM]
      have hMl : M < 18446744073709551616 := by rw [← hM]; exact mk_lt _
      clear hs hc hx hM
      by_cases h0 : x < 0
      · go_wp2
        exact ⟨⟨k + 1, by go_num, by omega, by rw [ht.out, ofM_out _ _ (.inl h0), HM.out], hB⟩, by simp [intOf]; omega⟩
      by_cases h1 : 64 ≤ x
      · go_wp2
        exact ⟨⟨k + 1, by go_num, by omega, by rw [ht.out, ofM_out _ _ (.inr h1), HM.out], hB⟩, by simp [intOf]; omega⟩
      obtain ⟨n, rfl⟩ := Int.eq_ofNat_of_zero_le (by omega : 0 ≤ x)
      have hn : n < 64 := by omega
      have hor := bits_or hMl (pow_lt hn)
      rw [← HM.out, ofM_in _ _ hn, HM.out] at hor
      have Hor := hid hor
      clear hor
      go_wp2
      exact ⟨⟨k + 1, by go_num, by omega, by rw [ht.out, wrap_pow hn, Hor.out], hB⟩, by simp [intOf]; omega⟩
    · have hke : k = l.length := by omega
      have Hke := hid hke
      clear hke hM
      go_wp2
      go_ret
      rw [Hke.out, List.take_length]
      exact ⟨rfl, hB⟩

/-! ### the document's -/
set_option maxHeartbeats 400000 in
theorem RHas_any (m : Nat) (n : Int) (w : World) (hm : m < 18446744073709551616) : Calls Try.prog 26 #[.int .u64 m, .int .i64 n] w fun e w' => e = .returned (.bool (hasB m n)) ∧ w = w' := by
  have Hm := hid (fun i (hi : 64 ≤ i) => test_big hm hi)
  by_cases h0 : n < 0
  · have hr : Hid (hasB m n = false) := by show hasB m n = false; simp [hasB]; omega
    go_enter Try.func26, Try.ntmps26
    go_wp2
    go_ret
    rw [hr.out]; exact ⟨rfl, rfl⟩
  by_cases h1 : 63 < n
  · have hr : Hid (hasB m n = false) := by show hasB m n = false; rw [hasB, Hm.out n.toNat (by omega)]; simp
    go_enter Try.func26, Try.ntmps26
    go_wp2
    go_ret
    rw [hr.out]; exact ⟨rfl, rfl⟩
  obtain ⟨k, rfl⟩ := Int.eq_ofNat_of_zero_le (by omega : 0 ≤ n)
  have hr : Hid (hasB m (k : Int) = m.testBit k) := by show hasB m (k : Int) = m.testBit k; simp [hasB]
  go_enter Try.func26, Try.ntmps26
  go_wp2
  go_loop [0, 5] (fun v i => ∃ j : Nat, i = .int .i64 j ∧ j ≤ k ∧ v = .int .u64 ((m / 2 ^ j : Nat) : Int)) (fun _ i => k - (intOf i).toNat)
  case atStart => exact ⟨0, rfl, by omega, by simp⟩
  case round =>
    obtain ⟨j, rfl, hj, rfl⟩ := hrel
    obtain ⟨q, hq⟩ : ∃ q, m / 2 ^ j = q := ⟨_, rfl⟩
    have Hq := hid hq
    rw [hq]
    have hql : q < 18446744073709551616 := by rw [← hq]; exact Nat.lt_of_le_of_lt (Nat.div_le_self _ _) hm
    clear hq
    by_cases hlt : j < k
    · go_wp2
      refine ⟨⟨j + 1, by go_num, by omega, ?_⟩, by simp [intOf]; omega⟩
      rw [Nat.pow_succ, ← Nat.div_div_eq_div_mul, Hq.out]
      simp
    · have hjk : j = k := by omega
      have Hjk := hid hjk
      clear hjk
      go_wp2
      go_ret
      refine ⟨ret_bool ?_, rfl⟩
      rw [hr.out, ← Hjk.out, Nat.testBit_eq_decide_div_mod_eq, Hq.out]
      rw [Bool.eq_iff_iff]
      simp
      omega

/-- one round of the document's Of: the bit n is in front -/
theorem shift_in (p : Nat → Bool) (n : Nat) : mkBits (fun i => p (n + i)) (64 - n) < 18446744073709551616 :=
  Nat.lt_of_lt_of_le (mkBits_lt _ _) (Nat.pow_le_pow_right (n := 2) (i := 64 - n) (j := 64) (by omega) (by omega))

theorem mkBits_cons (p : Nat → Bool) : ∀ (n : Nat), mkBits p (n + 1) = 2 * mkBits (fun i => p (i + 1)) n + (if p 0 then 1 else 0)
  | 0 => by simp [mkBits]
  | n + 1 => by
    rw [mkBits, mkBits_cons p n, mkBits, Nat.pow_succ]
    by_cases h : p (n + 1) = true
    · rw [if_pos h, if_pos h]; omega
    · rw [if_neg h, if_neg h]; omega

/-- what the document's Of holds when the numbers from n on are in -/
def upM (p : Nat → Bool) (n : Nat) : Nat := mkBits (fun i => p (n + i)) (64 - n)
theorem upM_step (p : Nat → Bool) (n : Nat) (h : n < 64) : upM p n = 2 * upM p (n + 1) + (if p n then 1 else 0) := by
  unfold upM
  rw [show 64 - n = (64 - (n + 1)) + 1 by omega, mkBits_cons]
  simp only [Nat.add_zero]
  congr 3
  funext i
  congr 1
  omega
theorem upM_64 (p : Nat → Bool) : upM p 64 = 0 := rfl
theorem upM_0 (p : Nat → Bool) : upM p 0 = mk p := by unfold upM mk; congr 1; funext i; rw [Nat.zero_add]
theorem upM_lt (p : Nat → Bool) (n : Nat) : upM p n < 18446744073709551616 := shift_in p n
theorem upM_half (p : Nat → Bool) (n : Nat) : 2 * upM p (n + 1) < 18446744073709551616 ∨ 64 ≤ n := by
  by_cases h : 64 ≤ n
  · exact .inr h
  · left
    have := upM_step p n (by omega)
    have h2 := upM_lt p n
    split at this <;> omega

set_option maxHeartbeats 800000 in
theorem ROf_any (a : Option Addr) (cap : Nat) (l : List Int) (w : World) (hl : l.length ≤ 9223372036854775807) (hs : Sl w a (ints l)) :
    Calls Try.prog 117 #[.slice a l.length cap] w fun e w' => e = .returned (.int .u64 (ofM l)) ∧ Below w.heap.size w w' := by
  go_enter Try.func117, Try.ntmps117
  go_wp2
  go_loopw [3, 4] (fun v i wr => ∃ n : Nat, n ≤ 64 ∧ i = .int .i64 ((n : Int) - 1) ∧ v = .int .u64 (upM (inB l) n) ∧ Below w.heap.size w wr) (fun _ i _ => (intOf i + 1).toNat)
  case atStart => exact ⟨64, by omega, by simp, by rw [upM_64]; rfl, Below.refl _ _⟩
  case round =>
    obtain ⟨wo, rfl⟩ : ∃ wo : World, wo = wr := ⟨_, rfl⟩
    obtain ⟨n, hn, rfl, rfl, hB⟩ := hrel
    cases n with
    | zero =>
      go_wp2
      go_ret
      rw [upM_0]
      exact ⟨rfl, hB⟩
    | succ n =>
      have hst := hid (upM_step (inB l) n (by omega))
      have hh := upM_half (inB l) n
      obtain ⟨M, hM⟩ : ∃ M, upM (inB l) (n + 1) = M := ⟨_, rfl⟩
      have HM := hid hM
      rw [hM] at hst hh ⊢
      have hM2 : 2 * M < 18446744073709551616 := by omega
      have e1 : ((n + 1 : Nat) : Int) - 1 = (n : Int) := by omega
      rw [e1]
      clear hM e1
      go_wp2
      go_loopw [3, 5] (fun v i wr => ∃ j : Nat, i = .int .i64 j ∧ j ≤ l.length ∧ v = .int .u64 (2 * (M : Int)) ∧ (∀ t, (h : t < j) → (h2 : t < l.length) → l[t] ≠ (n : Int)) ∧ Below w.heap.size w wr) (fun _ i _ => l.length - (intOf i).toNat)
      case atStart => exact ⟨0, rfl, by omega, rfl, fun t h => by omega, hB⟩
      case round =>
        obtain ⟨j, rfl, hj, rfl, hno, hB2⟩ := hrel
        have Hno := hid hno
        clear hno hB
        by_cases hlt : j < l.length
        · obtain ⟨b, off, rfl, hb, hc⟩ := hs.atInt hlt
          have e1 := (hB2.cell (p := ⟨b, off + j, none⟩) hb).trans (hc j hlt)
          obtain ⟨x, hx⟩ : ∃ x, l[j] = x := ⟨_, rfl⟩
          rw [hx] at e1
          have Hx := hid hx
          clear hs hc hx
          by_cases hxn : x = (n : Int)
          · have hb1 : (x == (n : Int)) = true := by simp [hxn]
            have Hxn := hid hxn
            have hin : inB l n = true := by simp only [inB, decide_eq_true_eq]; rw [← hxn, ← Hx.out]; exact List.getElem_mem _
            have hst2 := hst.out
            rw [hin, if_pos rfl] at hst2
            have Hst := hid hst2
            have hml := upM_lt (inB l) n
            rw [hst2] at hml
            clear hxn hin hst2
            go_wp2
            refine ⟨⟨n, by omega, by go_num, ?_, hB2⟩, by simp [intOf]⟩
            rw [Hst.out]; go_num
          · have hb1 : (x == (n : Int)) = false := by simp [hxn]
            have Hxn := hid hxn
            clear hxn
            go_wp2
            refine ⟨⟨j + 1, by go_num, by omega, rfl, ?_, hB2⟩, by simp [intOf]; omega⟩
            intro t ht ht2
            by_cases htj : t = j
            · subst htj; rw [Hx.out]; exact Hxn.out
            · exact Hno.out t (by omega) ht2
        · have hin : inB l n = false := by
            simp only [inB, decide_eq_false_iff_not]
            intro hm
            obtain ⟨t, ht, he⟩ := List.getElem_of_mem hm
            exact Hno.out t (by omega) ht he
          have hst2 := hst.out
          rw [hin] at hst2
          have Hst := hid hst2
          clear hin hst2
          go_wp2
          refine ⟨⟨n, by omega, by go_num, ?_, hB2⟩, by simp [intOf]⟩
          rw [Hst.out]; simp
end Go.Proofs.Ytndfckpcbiecnaa

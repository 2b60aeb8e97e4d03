/-
  clause.within, clause.ordinal, feriaref13.Bits, feriaref13.ord, unit.Name.
-/
import Derived.Test.YtndfckpcbiecnaaClBase
import Derived.Test.YtndfckpcbiecnaaMaskSpan
import Derived.Test.YtndfckpcbiecnaaMaskTz
namespace Go.Proofs.Ytndfckpcbiecnaa
open Go.RowKit
set_option linter.unusedVariables false

/-- has a mask bits from lo to hi alone -/
def bitsB (m : Nat) (lo hi : Int) : Bool := allR 64 (fun n => !m.testBit n || decide (lo ≤ (n : Int) ∧ (n : Int) ≤ hi))
def lessM (x y : Nat) : Nat := mk (fun k => x.testBit k && !y.testBit k)
theorem lessM_zero {x y : Nat} : lessM x y = 0 ↔ ∀ k, k < 64 → x.testBit k = true → y.testBit k = true := by
  constructor
  · intro h k hk hx
    have := congrArg (fun z => z.testBit k) h
    simp only [lessM, mk_test, Nat.zero_testBit, hx, decide_eq_true hk, Bool.true_and, Bool.not_eq_false'] at this
    exact this
  · intro h
    rw [lessM, ← mk_false]
    refine mk_congr fun k hk => ?_
    cases hx : x.testBit k
    · rfl
    · rw [h k hk hx]; rfl
theorem bitsB_iff {m : Nat} {lo hi : Int} : bitsB m lo hi = true ↔ ∀ k, k < 64 → m.testBit k = true → lo ≤ (k : Int) ∧ (k : Int) ≤ hi := by
  rw [bitsB, allR_iff]
  refine forall_congr' fun k => forall_congr' fun hk => ?_
  cases m.testBit k <;> simp
theorem span_test {lo hi : Int} {k : Nat} (hk : k < 64) : (spanM lo hi 1).testBit k = decide (lo ≤ (k : Int) ∧ (k : Int) ≤ hi) := by
  rw [spanM, mk_test, decide_eq_true hk, Bool.true_and, spanB]
  rw [Bool.eq_iff_iff, decide_eq_true_eq, decide_eq_true_eq]
  constructor
  · rintro ⟨_, h1, h2, _⟩; exact ⟨h1, h2⟩
  · rintro ⟨h1, h2⟩; exact ⟨by omega, h1, h2, by omega⟩
theorem less_span (m : Nat) (lo hi : Int) : (lessM m (spanM lo hi 1) = 0) = (bitsB m lo hi = true) := by
  rw [eq_iff_iff, lessM_zero, bitsB_iff]
  refine forall_congr' fun k => forall_congr' fun hk => ?_
  rw [span_test hk, decide_eq_true_eq]

/-! ### pairs of masks -/
def pairs (l : List (Nat × Nat)) : List Value := l.flatMap fun p => [.int .u64 (p.1 : Nat), .int .u64 (p.2 : Nat)]
theorem pairs_len (l : List (Nat × Nat)) : (pairs l).length = l.length * 2 := by
  induction l with
  | nil => rfl
  | cons x l ih => simp only [pairs, List.flatMap_cons, List.length_append, List.length_cons, List.length_nil] at ih ⊢; rw [ih]; omega
theorem pairs_get : ∀ (l : List (Nat × Nat)) (k : Nat) (hk : k < l.length), (pairs l)[k * 2]? = some (.int .u64 (l[k].1 : Nat)) ∧ (pairs l)[k * 2 + 1]? = some (.int .u64 (l[k].2 : Nat))
  | x :: l, 0, _ => by simp [pairs]
  | x :: l, k + 1, hk => by
    have e : pairs (x :: l) = [.int .u64 (x.1 : Nat), .int .u64 (x.2 : Nat)] ++ pairs l := by simp [pairs]
    obtain ⟨h1, h2⟩ := pairs_get l k (by simpa using hk)
    refine ⟨?_, ?_⟩
    · rw [e, List.getElem?_append_right (by simp; omega), show (k + 1) * 2 - [Value.int .u64 (x.1 : Nat), .int .u64 (x.2 : Nat)].length = k * 2 by simp; omega, h1]; simp
    · rw [e, List.getElem?_append_right (by simp; omega), show (k + 1) * 2 + 1 - [Value.int .u64 (x.1 : Nat), .int .u64 (x.2 : Nat)].length = k * 2 + 1 by simp; omega, h2]; simp
theorem Sl.atPair {w : World} {a : Option Addr} {l : List (Nat × Nat)} (h : Sl w a (pairs l)) {k : Nat} (hk : k < l.length) :
    ∃ b off, a = some ⟨b, off, none⟩ ∧ b < w.heap.size ∧ ∀ j (h : j < l.length), w.cell? ⟨b, off + j * 2, none⟩ = some (.int .u64 (l[j].1 : Nat)) ∧ w.cell? ⟨b, off + j * 2 + 1, none⟩ = some (.int .u64 (l[j].2 : Nat)) := by
  obtain ⟨b, off, rfl, hlt, hc⟩ := Sl.at h (k := k * 2) (by rw [pairs_len]; omega)
  refine ⟨b, off, rfl, hlt, fun j hj => ?_⟩
  have hg := pairs_get l j hj
  have get : ∀ m v, (pairs l)[m]? = some v → w.cell? ⟨b, off + m, none⟩ = some v := by
    intro m v hm
    obtain ⟨hlm, hv⟩ := List.getElem?_eq_some_iff.1 hm
    rw [hc m hlm, hv]
  exact ⟨get _ _ hg.1, by rw [Nat.add_assoc]; exact get _ _ hg.2⟩
def withinB (l : List (Nat × Nat)) : Bool := l.all (fun p => lessM p.1 p.2 == 0)
set_option maxHeartbeats 1600000 in
theorem Within2_any (a : Option Addr) (cap : Nat) (l : List (Nat × Nat)) (w : World) (hl : l.length ≤ 1000) (hs : Sl w a (pairs l)) (hb : ∀ p ∈ l, p.1 < 18446744073709551616 ∧ p.2 < 18446744073709551616) :
    Calls Try.prog 60 #[.slice a l.length cap] w fun e w' => e = .returned (.bool (withinB l)) ∧ Below w.heap.size w w' := by
  have Hs := hid hs
  have Hb := hid hb
  have hlI : (l.length : Int) ≤ 1000 := by omega
  clear hs hb hl
  go_enter Try.func60, Try.ntmps60
  go_wp2
  go_loopw [7] (fun i wr => ∃ k : Nat, i = .int .i64 k ∧ k ≤ l.length ∧ Hid (withinB (l.take k) = true) ∧ Hid (Below w.heap.size w wr)) (fun i _ => l.length - (intOf i).toNat)
  case atStart => exact ⟨0, rfl, by omega, by show _ = _; simp [withinB], Below.refl _ _⟩
  case round =>
    obtain ⟨k, rfl, hk, hI, HB⟩ := hrel
    by_cases hlt : k < l.length
    · obtain ⟨b, off, rfl, hbk, hc⟩ := Hs.out.atPair hlt
      obtain ⟨e1, e2⟩ := hc k hlt
      have e1' := (HB.out.cell (p := ⟨b, off + k * 2, none⟩) hbk).trans e1
      have e2' := (HB.out.cell (p := ⟨b, off + k * 2 + 1, none⟩) hbk).trans e2
      have hbd := Hb.out l[k] (List.getElem_mem hlt)
      have ht := hid (take_snoc l k hlt)
      have hmem := hid (List.getElem_mem hlt)
      obtain ⟨p, hp⟩ : ∃ p, l[k] = p := ⟨_, rfl⟩
      rw [hp] at e1' e2' hbd ht hmem
      have hand := hid (bits_andNot hbd.1 hbd.2)
      have hz : Hid (lessM p.1 p.2 = mk (fun k => p.1.testBit k && !p.2.testBit k)) := rfl
      rw [← hz.out] at hand
      clear hc hp e1 e2 hz hbd
      obtain ⟨x, y⟩ := p
      simp only [] at e1' e2' hand
      obtain ⟨q, hq⟩ : ∃ q, lessM x y = q := ⟨_, rfl⟩
      rw [hq] at hand
      have Hq := hid hq
      clear hq
      by_cases h0 : q = 0
      · have hI2 : Hid (withinB (l.take (k + 1)) = true) := by
          show _ = _
          rw [ht.out, withinB, List.all_append]
          have := hI.out
          rw [withinB] at this
          rw [this]
          simp [Hq.out, h0]
        subst h0
        have hbn : ((0 : Nat) : Int) = 0 := rfl
        have hb2 := hand.out
        go_wp2
        exact ⟨⟨k + 1, by go_num, by omega, hI2.out, below_new HB.out HB.out.size⟩, by simp [intOf]; omega⟩
      · have hr : Hid (withinB l = false) := by
          show _ = _
          rw [withinB, List.all_eq_false]
          exact ⟨_, hmem.out, by simp [Hq.out, h0]⟩
        have hbq : ((q : Int) == 0) = false := by simp; omega
        have hbq2 : ((q : Int) != 0) = true := by simp; omega
        have hb2 := hand.out
        clear h0
        go_wp2
        go_ret
        exact ⟨by rw [hr.out]; rfl, below_new HB.out HB.out.size⟩
    · have hke : l.take k = l := List.take_of_length_le (by omega)
      rw [hke] at hI
      clear hke
      go_wp2
      go_ret
      exact ⟨by rw [hI.out]; rfl, HB.out⟩
end Go.Proofs.Ytndfckpcbiecnaa

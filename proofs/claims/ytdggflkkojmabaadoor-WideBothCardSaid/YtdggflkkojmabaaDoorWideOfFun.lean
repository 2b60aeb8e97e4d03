/-
  What wide.Of and feriaref04.Of compute: the set of a list.
-/
import Derived.Test.YtdggflkkojmabaaDoorWideSet2
import Derived.BigRegion
namespace Go.Proofs.YtdggflkkojmabaaDoor
open Go.RowKit
set_option linter.unusedVariables false

/-- is the k-th number of word i in l? -/
def inWB (l : List Int) (i k : Nat) : Bool := decide (((64 * i + k : Nat) : Int) ∈ l) && decide (64 * i + k < 400)
def wof (l : List Int) (i : Nat) : Nat := mk (inWB l i)
theorem wof_lt (l : List Int) (i : Nat) : wof l i < 18446744073709551616 := mk_lt _
theorem wof_nil (i : Nat) : wof [] i = 0 := by rw [wof, ← mk_false]; exact mk_congr fun k _ => by simp [inWB]
theorem wof_out (l : List Int) (x : Int) (h : mayB x = false) (i : Nat) : wof (l ++ [x]) i = wof l i :=
  mk_congr fun k hk => by
    simp only [mayB, Bool.and_eq_false_iff, decide_eq_false_iff_not] at h
    rw [inWB, inWB, Bool.eq_iff_iff]
    simp only [Bool.and_eq_true, decide_eq_true_eq, List.mem_append, List.mem_singleton]
    constructor
    · rintro ⟨h1 | h1, h2⟩
      · exact ⟨h1, h2⟩
      · omega
    · rintro ⟨h1, h2⟩; exact ⟨.inl h1, h2⟩
theorem wof_in (l : List Int) (n : Nat) (h : n < 400) : wof l (n / 64) ||| 2 ^ (n % 64) = wof (l ++ [(n : Int)]) (n / 64) := by
  refine eq_mk (or_lt (mk_lt _) (pow_lt (by omega))) (fun i hi => ?_)
  rw [Nat.testBit_or, wof, mk_test, Nat.testBit_two_pow, inWB, inWB, Bool.eq_iff_iff]
  simp only [Bool.or_eq_true, Bool.and_eq_true, decide_eq_true_eq, List.mem_append, List.mem_singleton]
  constructor
  · rintro (⟨_, h1, h2⟩ | h1)
    · exact ⟨.inl h1, h2⟩
    · exact ⟨.inr (by omega), by omega⟩
  · rintro ⟨h1 | h1, h2⟩
    · exact .inl ⟨hi, h1, h2⟩
    · exact .inr (by omega)
theorem wof_other (l : List Int) (n i : Nat) (h : i ≠ n / 64) : wof (l ++ [(n : Int)]) i = wof l i :=
  mk_congr fun k hk => by
    rw [inWB, inWB, Bool.eq_iff_iff]
    simp only [Bool.and_eq_true, decide_eq_true_eq, List.mem_append, List.mem_singleton]
    constructor
    · rintro ⟨h1 | h1, h2⟩
      · exact ⟨h1, h2⟩
      · omega
    · rintro ⟨h1, h2⟩; exact ⟨.inl h1, h2⟩

set_option maxHeartbeats 3200000 in
theorem WOf_any (a : Option Addr) (cap : Nat) (l : List Int) (w : World) (hl : l.length ≤ 9223372036854775807) (hs : Sl w a (ints l)) :
    Calls Tryd.prog 59 #[.slice a l.length cap] w fun e w' => e = .returned (wv (wof l)) ∧ Below w.heap.size w w' := by
  have c1 := hid (fun n W => WMayN_any n W)
  have Hs := hid hs
  clear hs
  go_enter Tryd.func59, Tryd.ntmps59
  go_wp2
  go_loopw [8] (fun i wr => ∃ k : Nat, i = .int .i64 k ∧ k ≤ l.length ∧ Hid (WCells wr (w.heap.size + 1) (wof (l.take k)) ∧ WCells wr w.heap.size (fun _ => 0) ∧ WFree wr (w.heap.size + 1) ∧ WFree wr w.heap.size ∧ Below w.heap.size w wr)) (fun i _ => l.length - (intOf i).toNat)
  case atStart =>
    refine ⟨0, rfl, by omega, fun j hj => ?_, fun j hj => ?_, fun j => by simp [go_sem], fun j => by simp [go_sem], below_new (below_new (Below.refl _ _) (Nat.le_refl _)) (by simp)⟩
    · rw [List.take_zero, wof_nil]
      rcases seven hj with rfl | rfl | rfl | rfl | rfl | rfl | rfl <;> simp [go_sem]
    · rcases seven hj with rfl | rfl | rfl | rfl | rfl | rfl | rfl <;> simp [go_sem]
  case round =>
    obtain ⟨k, rfl, hk, HI⟩ := hrel
    by_cases hlt : k < l.length
    · obtain ⟨b, off, rfl, hb, hc⟩ := Hs.out.atInt hlt
      have e1 := (HI.out.2.2.2.2.cell (p := ⟨b, off + k, none⟩) hb).trans (hc k hlt)
      have ht := hid (take_snoc l k hlt)
      obtain ⟨x, hx⟩ : ∃ x, l[k] = x := ⟨_, rfl⟩
      rw [hx] at e1 ht
      have C1 := hid (c1.out x wr)
      clear hc hx
      by_cases hm : mayB x = true
      · rw [hm] at C1
        rw [mayB] at hm
        simp at hm
        obtain ⟨n, rfl⟩ : ∃ n : Nat, x = n := ⟨x.toNat, by omega⟩
        have hn : n < 400 := by omega
        have hd7 : n / 64 < 7 := by omega
        have hd7i : (n : Int) / 64 < 7 := by omega
        have e2 := HI.out.1 (n / 64) hd7
        have e3 := HI.out.2.2.1 (n / 64)
        have hor := bits_or (wof_lt (l.take k) (n / 64)) (pow_lt (n := n % 64) (by omega))
        rw [wof_in _ _ hn, ← ht.out] at hor
        have hpw := wrap_pow (n := n % 64) (by omega)
        have done : ∀ v, v = ((wof (l.take (k + 1)) (n / 64) : Nat) : Int) → WCells (wr.setCell ⟨w.heap.size + 1, n / 64, none⟩ (.int .u64 v)) (w.heap.size + 1) (wof (l.take (k + 1))) ∧ WCells (wr.setCell ⟨w.heap.size + 1, n / 64, none⟩ (.int .u64 v)) w.heap.size (fun _ => 0) ∧
            WFree (wr.setCell ⟨w.heap.size + 1, n / 64, none⟩ (.int .u64 v)) (w.heap.size + 1) ∧ WFree (wr.setCell ⟨w.heap.size + 1, n / 64, none⟩ (.int .u64 v)) w.heap.size ∧ Below w.heap.size w (wr.setCell ⟨w.heap.size + 1, n / 64, none⟩ (.int .u64 v)).drew := by
          rintro v rfl
          obtain ⟨d1, d2, d3, d4, d5⟩ := HI.out
          refine ⟨(d1.set (v := wof (l.take (k + 1)) (n / 64)) hd7).congr (fun j hj => ?_), fun j hj => (World.cell?_of_block (w := wr) (a := ⟨w.heap.size, j, none⟩) (Below.heap_setCell _ _ _ _ (by simp))).trans (d2 j hj), d3.set _ _, d4.set _ _, (below_set d5 (by omega)).drew⟩
          by_cases e : j = n / 64
          · subst e; simp
          · rw [if_neg e, ht.out, wof_other _ _ _ e]
        have Done := hid done
        have Hor := hid hor
        have Hpw := hid hpw
        have Hn := hid hn
        clear done hor hpw hm hn
        go_wp2_with fail
        refine C1.out.mono ?_
        rintro e w' ⟨rfl, rfl⟩
        go_wp2
        go_region
        go_wp2
        obtain ⟨d1, d2, d3, d4, d5⟩ := Done.out (bits .or .u64 ((wof (l.take k) (n / 64) : Nat) : Int) (IntKind.u64.wrap (2 ^ (n % 64)))) (by rw [Hpw.out]; exact Hor.out)
        exact ⟨⟨k + 1, by go_num, by omega, d1, d2, d3, d4, d5⟩, by simp [intOf]; omega⟩
      · have hm' : mayB x = false := by simpa using hm
        rw [hm'] at C1
        have he := hid (fun i => wof_out (l.take k) x hm' i)
        clear hm hm'
        go_wp2_with fail
        refine C1.out.mono ?_
        rintro e w' ⟨rfl, rfl⟩
        go_wp2
        exact ⟨⟨k + 1, by go_num, by omega, HI.out.1.congr (fun i hi => by rw [ht.out, he.out]), HI.out.2⟩, by simp [intOf]; omega⟩
    · have hke : l.take k = l := List.take_of_length_le (by omega)
      have hc' : WCells wr (w.heap.size + 1) (wof l) := by rw [← hke]; exact HI.out.1
      obtain ⟨_, d2, d3, d4, d5⟩ := HI.out
      obtain ⟨r0, r1, r2, r3, r4, r5, r6⟩ := hc'.all
      obtain ⟨z0, z1, z2, z3, z4, z5, z6⟩ := d2.all
      have f0 := d4 0
      have f1 := d4 1
      have f2 := d4 2
      have f3 := d4 3
      have f4 := d4 4
      have f5 := d4 5
      have f6 := d4 6
      have D5 := hid d5
      clear hke hc' d2 d3 d4 d5 HI
      go_wp2
      refine bodyPost_ret (v := wv (wof l)) (by simp [results, Tryd.results59, go_sem, z0, z1, z2, z3, z4, z5, z6]) rfl ⟨rfl, ?_⟩
      exact below_set (below_set (below_set (below_set (below_set (below_set (below_set D5.out (Nat.le_refl _)) (Nat.le_refl _)) (Nat.le_refl _)) (Nat.le_refl _)) (Nat.le_refl _)) (Nat.le_refl _)) (Nat.le_refl _)
end Go.Proofs.YtdggflkkojmabaaDoor

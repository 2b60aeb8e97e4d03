/-
  clause.ordinal, feriaref13.Bits, feriaref13.ord: whether an Ord may be.
-/
import Derived.Test.YtgiecadlliblpaaClMays
namespace Go.Proofs.Ytgiecadlliblpaa
open Go.RowKit
set_option linter.unusedVariables false

/-- the bits of an Ord's days -/
def tailB (od : Nat → Nat) (most : Int) : Bool := decide (od 0 = 0) && allR 8 (fun i => bitsB (od i) 1 most)
def ordB (oin : Int) (oback : Bool) (od : Nat → Nat) : Bool :=
  if oin = 0 then !oback && tailB od 0 else if oin = 1 then tailB od 5 else if oin = 2 then tailB od 53 else false
theorem bits_none (m : Nat) (hm : m < 18446744073709551616) : bitsB m 1 0 = true ↔ m = 0 := by
  rw [bitsB_iff]
  constructor
  · intro h
    apply Nat.eq_of_testBit_eq
    intro i
    rw [Nat.zero_testBit]
    by_cases hi : i < 64
    · cases hb : m.testBit i
      · rfl
      · have := h i hi hb; omega
    · exact test_big hm (by omega)
  · rintro rfl k hk h; rw [Nat.zero_testBit] at h; cases h
theorem tail_none (od : Nat → Nat) (h : ∀ i, i < 8 → od i < 18446744073709551616) : tailB od 0 = true ↔ ∀ i, i < 8 → od i = 0 := by
  rw [tailB, Bool.and_eq_true, decide_eq_true_eq, allR_iff]
  constructor
  · rintro ⟨_, h2⟩ i hi; exact (bits_none _ (h i hi)).mp (h2 i hi)
  · intro h2; exact ⟨h2 0 (by omega), fun i hi => (bits_none _ (h i hi)).mpr (h2 i hi)⟩
theorem ord_zero (oback : Bool) (od : Nat → Nat) (h : ∀ i, i < 8 → od i < 18446744073709551616) : ordSame 0 oback od 0 false (fun _ => 0) = ordB 0 oback od := by
  rw [Bool.eq_iff_iff, ordSame_true, ordB, if_pos rfl, Bool.and_eq_true, tail_none od h]
  cases oback <;> simp
/-- the index of a row of eight masks -/
theorem run_index_8 (s : Nat → Nat) (i : Nat) (h : i < 8) (W : World) : (Instr.index 30 (.agg #[.int .u64 (s 0 : Nat), .int .u64 (s 1 : Nat), .int .u64 (s 2 : Nat), .int .u64 (s 3 : Nat), .int .u64 (s 4 : Nat), .int .u64 (s 5 : Nat), .int .u64 (s 6 : Nat), .int .u64 (s 7 : Nat)]) (.int .i64 i)).run Try.prog W = .ok (.int .u64 (s i : Nat)) W := by
  obtain ⟨i0, hi0, hz0, hz1, hz2⟩ := info_parts infoU64
  rcases eight h with rfl | rfl | rfl | rfl | rfl | rfl | rfl | rfl
  all_goals
    simp [Instr.index, go_sem, part, sizeOf, typeInfo, hi0, hz1]
theorem ord_cell (w : World) (oin : Int) (oback : Bool) (od : Nat → Nat) (t : TypeId) (k : Nat) (hk : k < 8) :
    (w.alloc (.cells #[.int .i64 oin, .bool oback, .int .u64 (od 0 : Nat), .int .u64 (od 1 : Nat), .int .u64 (od 2 : Nat), .int .u64 (od 3 : Nat), .int .u64 (od 4 : Nat), .int .u64 (od 5 : Nat), .int .u64 (od 6 : Nat), .int .u64 (od 7 : Nat)] t)).cell? ⟨w.heap.size, 2 + k, none⟩ = some (.int .u64 (od k : Nat)) := by
  rcases eight hk with rfl | rfl | rfl | rfl | rfl | rfl | rfl | rfl <;> simp [go_sem]

theorem ext_step {p : Nat → Bool} {k : Nat} (h : ∀ j, j < k → p j = true) (hk : p k = true) : ∀ j, j < k + 1 → p j = true := fun j hj => by
  by_cases e : j = k
  · rw [e]; exact hk
  · exact h j (by omega)
theorem allR_no {p : Nat → Bool} {n k : Nat} (hk : k < n) (h : ¬ p k = true) : allR n p = false := by
  cases hb : allR n p
  · rfl
  · exact absurd (allR_iff.mp hb k hk) h
theorem allR_yes {p : Nat → Bool} {n k : Nat} (hn : n ≤ k) (h : ∀ j, j < k → p j = true) : allR n p = true := allR_iff.mpr (fun i hi => h i (by omega))
theorem form8 (od : Nat → Nat) : (Value.agg #[.int .u64 (od 0 : Nat), .int .u64 (od 1 : Nat), .int .u64 (od 2 : Nat), .int .u64 (od 3 : Nat), .int .u64 (od 4 : Nat), .int .u64 (od 5 : Nat), .int .u64 (od 6 : Nat), .int .u64 (od 7 : Nat)]).formed Try.prog 30 = true := by
  unfold Value.formed; simp only [Try.underlying30, cells8]; rfl
theorem key8 : Try.prog.keyTypeAt 2 30 = true := by kernel_rfl
theorem eqIn_8 (od : Nat → Nat) (h : ∀ i, i < 8 → od i < 18446744073709551616) (W : World) :
    (Op.equalIn 9999 30 (.agg #[.int .u64 (od 0 : Nat), .int .u64 (od 1 : Nat), .int .u64 (od 2 : Nat), .int .u64 (od 3 : Nat), .int .u64 (od 4 : Nat), .int .u64 (od 5 : Nat), .int .u64 (od 6 : Nat), .int .u64 (od 7 : Nat)])
      (.agg #[.int .u64 0, .int .u64 0, .int .u64 0, .int .u64 0, .int .u64 0, .int .u64 0, .int .u64 0, .int .u64 0])).run Try.prog W = .ok (tailB od 0) W := by
  obtain ⟨r, hr, hi⟩ := run_equalIn_deep 9997 2 30 key8 W 3 3 _ _ _ _ (form8 od) (form8 (fun _ => 0)) (lits_8 1 od h) (lits_8 1 (fun _ => 0) (fun _ _ => by omega))
  have e : r = tailB od 0 := by
    rw [Bool.eq_iff_iff, hi, tail_none od h, all8]
    simp only [List.cons.injEq, lit_int, Int.natCast_inj, and_true]
  rw [← e]
  exact hr

set_option maxRecDepth 100000 in
set_option maxHeartbeats 3200000 in
theorem COrdTail_any (most o1 : Int) (oback : Bool) (od : Nat → Nat) (w : World) (hmost : (most = 5 ∧ o1 = (1 : Int)) ∨ (most = 53 ∧ o1 = 2)) (h : ∀ i, i < 8 → od i < 18446744073709551616) :
    Calls Try.prog 32 #[ordv o1 oback od] w fun e w' => e = .returned (.bool (tailB od most)) ∧ Below w.heap.size w w' := by
  have H := hid h
  have ho0 := h 0 (by omega)
  clear h
  have c1 : Hid (∀ W, Calls Try.prog 25 #[.int .i64 1, .int .i64 most, .int .i64 1] W fun e w' => e = .returned (.int .u64 (spanM 1 most 1 : Nat)) ∧ W = w') := fun W => Span_any 1 most 1 W (by omega) (by omega)
  have hix := hid (fun k hk W => run_index_8 od k hk W)
  have hB : Hid (Below w.heap.size w (w.alloc (Obj.cells (ordList o1 oback od).toArray 32))) := below_new (Below.refl _ _) (Nat.le_refl _)
  obtain ⟨W1, hW1⟩ : ∃ W1, w.alloc (Obj.cells (ordList o1 oback od).toArray 32) = W1 := ⟨_, rfl⟩
  have HW1 := hid hW1
  rw [hW1] at hB
  clear hW1
  by_cases hz : od 0 = 0
  · have hzb : (((od 0 : Nat) : Int) != 0) = false := by simp; omega
    obtain ⟨tb, htb⟩ : ∃ tb : Nat → Bool, tb = fun i => bitsB (od i) 1 most := ⟨_, rfl⟩
    have hT : Hid (tailB od most = allR 8 tb) := by show _ = _; rw [tailB, decide_eq_true hz, Bool.true_and, htb]
    rw [hT.out]
    obtain ⟨V, hV⟩ : ∃ V, Value.agg #[.int .u64 (od 0 : Nat), .int .u64 (od 1 : Nat), .int .u64 (od 2 : Nat), .int .u64 (od 3 : Nat), .int .u64 (od 4 : Nat), .int .u64 (od 5 : Nat), .int .u64 (od 6 : Nat), .int .u64 (od 7 : Nat)] = V := ⟨_, rfl⟩
    have HV := hid hV
    rw [hV] at hix
    have Hzb := hid hzb
    have hstep : Hid (∀ k, (hk : k < 8) → ∃ q : Nat, bits .andNot .u64 ((od k : Nat) : Int) ((spanM 1 most 1 : Nat) : Int) = q ∧ (q = 0 ↔ tb k = true)) := fun k hk =>
      ⟨lessM (od k) (spanM 1 most 1), bits_andNot (H.out k hk) (mk_lt _), by rw [less_span, htb]⟩
    clear hT hz ho0 hV hzb htb
    rcases hmost with ⟨rfl, rfl⟩ | ⟨rfl, rfl⟩
    all_goals
      have hzb := Hzb.out
      go_enter Try.func32, Try.ntmps32
      go_wp2_with fail
      rw [HV.out]
      clear hzb
      rw [HW1.out]
      go_loopw [23] (fun i wr => ∃ k : Nat, i = .int .i64 k ∧ k ≤ 8 ∧ Hid (∀ j, j < k → tb j = true) ∧ wr = W1) (fun i _ => 8 - (intOf i).toNat)
      case atStart => exact ⟨0, rfl, by omega, fun j hj => by omega, rfl⟩
      case round =>
        obtain ⟨k, rfl, hk, hI, rfl⟩ := hrel
        by_cases hlt : k < 8
        · have hix' := hix.out k hlt
          obtain ⟨q, hq1, hq2⟩ := hstep.out k hlt
          have hkI : (k : Int) < 8 := by omega
          by_cases h0 : q = 0
          · have hI2 := hid (ext_step hI.out (hq2.mp h0))
            subst h0
            rw [Int.natCast_zero] at hq1
            have Hq2 := hid hq2
            clear hq2
            go_wp2_with fail
            refine (c1.out _).mono ?_
            rintro e w' ⟨rfl, rfl⟩
            go_wp2
            exact ⟨⟨k + 1, by go_num, by omega, hI2.out, trivial⟩, by simp [intOf]; omega⟩
          · have hno := fun h => h0 (hq2.mpr h)
            have hr := hid (allR_no (p := tb) hlt hno)
            clear hno
            have hbq : ((q : Int) != 0) = true := by simp; omega
            clear hq2 h0
            go_wp2_with fail
            refine (c1.out _).mono ?_
            rintro e w' ⟨rfl, rfl⟩
            go_wp2
            go_ret
            exact ⟨by rw [hr.out]; rfl, hB.out⟩
        · have hr := hid (allR_yes (n := 8) (show 8 ≤ k by omega) hI.out)
          go_wp2
          go_ret
          exact ⟨by rw [hr.out]; rfl, hB.out⟩
  · have hr : Hid (tailB od most = false) := by show _ = _; rw [tailB, decide_eq_false hz, Bool.false_and]
    rw [hr.out]
    have hzb : (((od 0 : Nat) : Int) != 0) = true := by simp; omega
    clear hz ho0
    rcases hmost with ⟨rfl, rfl⟩ | ⟨rfl, rfl⟩
    all_goals
      go_enter Try.func32, Try.ntmps32
      go_wp2
      go_ret
      rw [HW1.out]
      exact ⟨rfl, hB.out⟩

set_option maxRecDepth 100000 in
set_option maxHeartbeats 3200000 in
theorem COrdinal_any (oin : Int) (oback : Bool) (od : Nat → Nat) (w : World) (h0 : i64B oin) (h : ∀ i, i < 8 → od i < 18446744073709551616) :
    Calls Try.prog 32 #[ordv oin oback od] w fun e w' => e = .returned (.bool (ordB oin oback od)) ∧ Below w.heap.size w w' := by
  have hcase : oin = 0 ∨ oin = 1 ∨ oin = 2 ∨ (oin ≠ 0 ∧ oin ≠ 1 ∧ oin ≠ 2) := by omega
  rcases hcase with rfl | rfl | rfl | ⟨n0, n1, n2⟩
  · have heq := fun W => eqIn_8 od h W
    have hr : Hid (ordB 0 oback od = (!oback && tailB od 0)) := rfl
    rw [hr.out]
    obtain ⟨r, hrr⟩ : ∃ r, tailB od 0 = r := ⟨_, rfl⟩
    rw [hrr] at heq ⊢
    clear hrr h hr
    cases r <;> cases oback
    all_goals
      go_enter Try.func32, Try.ntmps32
      go_wp2
      go_ret
      exact ⟨by first | rfl | exact ret_bool (by simp), below_new (Below.refl _ _) (Nat.le_refl _)⟩
  · exact COrdTail_any 5 1 oback od w (.inl ⟨rfl, rfl⟩) h
  · exact COrdTail_any 53 2 oback od w (.inr ⟨rfl, rfl⟩) h
  · have hr : Hid (ordB oin oback od = false) := by show _ = _; rw [ordB, if_neg n0, if_neg n1, if_neg n2]
    have b0 : (oin == 0) = false := by simpa using n0
    have b1 : (oin == 1) = false := by simpa using n1
    have b2 : (oin == 2) = false := by simpa using n2
    rw [hr.out]
    clear h n0 n1 n2
    go_enter Try.func32, Try.ntmps32
    go_wp2
    go_ret
    exact ⟨rfl, below_new (Below.refl _ _) (Nat.le_refl _)⟩

/-- the document's loop over an Ord's days -/
theorem tail_doc (od : Nat → Nat) (most : Int) (h0 : od 0 = 0) : tailB od most = allR 8 (fun i => i == 0 || bitsB (od i) 1 most) := by
  rw [tailB, decide_eq_true h0, Bool.true_and, Bool.eq_iff_iff, allR_iff, allR_iff]
  refine forall_congr' fun i => forall_congr' fun hi => ?_
  by_cases e : i = 0
  · subst e
    rw [h0]
    simp only [beq_self_eq_true, Bool.true_or, iff_true]
    rw [bitsB_iff]
    intro k _ hk; rw [Nat.zero_testBit] at hk; cases hk
  · simp [e]
end Go.Proofs.Ytgiecadlliblpaa

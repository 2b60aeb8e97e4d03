/-
  clause.ordinal, feriaref13.Bits, feriaref13.ord: whether an Ord may be.
-/
import Derived.Test.YtgiecadlliblpaaGreatClMays
namespace Go.Proofs.YtgiecadlliblpaaGreat
open Go.RowKit
set_option linter.unusedVariables false

set_option maxHeartbeats 1600000 in
theorem RBits_any (m : Nat) (lo hi : Int) (w : World) (hm : m < 18446744073709551616) : Calls Tryz.prog 50 #[.int .u64 m, .int .i64 lo, .int .i64 hi] w fun e w' => e = .returned (.bool (bitsB m lo hi)) ∧ w = w' := by
  have c1 := hid (fun (k : Nat) W => hasB_nat m k ▸ RHas_any m k W hm)
  go_enter Tryz.func50, Tryz.ntmps50
  go_wp2
  go_loopw [7] (fun i wr => ∃ k : Nat, i = .int .i64 k ∧ k ≤ 64 ∧ Hid (∀ j, j < k → m.testBit j = true → lo ≤ (j : Int) ∧ (j : Int) ≤ hi) ∧ wr = w) (fun i _ => 64 - (intOf i).toNat)
  case atStart => exact ⟨0, rfl, by omega, fun j hj => by omega, rfl⟩
  case round =>
    obtain ⟨k, rfl, hk, hI, rfl⟩ := hrel
    by_cases hlt : k < 64
    · have d1 := hid (c1.out k wr)
      have hkI : (k : Int) < 64 := by omega
      have hr : Hid ((m.testBit k = true → ¬ (lo ≤ (k : Int) ∧ (k : Int) ≤ hi) → bitsB m lo hi = false)) := fun h1 h2 => by
        cases hb : bitsB m lo hi
        · rfl
        · exact absurd (bitsB_iff.mp hb k hlt h1) h2
      have hst : Hid ((m.testBit k = true → (lo ≤ (k : Int) ∧ (k : Int) ≤ hi)) → ∀ j, j < k + 1 → m.testBit j = true → lo ≤ (j : Int) ∧ (j : Int) ≤ hi) := fun h j hj hb => by
        by_cases e : j = k
        · rw [e] at hb ⊢; exact h hb
        · exact hI.out j (by omega) hb
      cases hb : m.testBit k
      · rw [hb] at d1
        have hst2 := hid (hst.out (fun h => by rw [hb] at h; cases h))
        clear hst hr hb
        go_wp2_with fail
        refine d1.out.mono ?_
        rintro e w' ⟨rfl, rfl⟩
        go_wp2
        exact ⟨⟨k + 1, by go_num, by omega, hst2.out, trivial⟩, by simp [intOf]; omega⟩
      · rw [hb] at d1
        by_cases hlo : (k : Int) < lo
        · have hr2 := hid (hr.out hb (by omega))
          clear hst hr hb
          go_wp2_with fail
          refine d1.out.mono ?_
          rintro e w' ⟨rfl, rfl⟩
          go_wp2
          go_ret
          exact ⟨by rw [hr2.out]; rfl, by trivial⟩
        · by_cases hhi : hi < (k : Int)
          · have hr2 := hid (hr.out hb (by omega))
            clear hst hr hb
            go_wp2_with fail
            refine d1.out.mono ?_
            rintro e w' ⟨rfl, rfl⟩
            go_wp2
            go_ret
            exact ⟨by rw [hr2.out]; rfl, by trivial⟩
          · have hst2 := hid (hst.out (fun _ => ⟨by omega, by omega⟩))
            clear hst hr hb
            go_wp2_with fail
            refine d1.out.mono ?_
            rintro e w' ⟨rfl, rfl⟩
            go_wp2
            exact ⟨⟨k + 1, by go_num, by omega, hst2.out, trivial⟩, by simp [intOf]; omega⟩
    · have hr : Hid (bitsB m lo hi = true) := bitsB_iff.mpr (fun j hj hb => hI.out j (by omega) hb)
      go_wp2
      go_ret
      exact ⟨by rw [hr.out]; rfl, by trivial⟩

/-- the bits of an Ord's days -/
def tailB (od : Nat → Nat) (most : Int) : Bool := decide (od 0 = 0) && allR 8 (fun i => bitsB (od i) 1 most)
def ordB (oin : Int) (oback : Bool) (od : Nat → Nat) : Bool :=
  if oin = 0 then !oback && tailB od 0 else if oin = 1 then tailB od 5 else if oin = 2 then tailB od 53 else false
theorem bits_none (m : Nat) (hm : m < 18446744073709551616) : bitsB m 1 0 = true ↔ m = 0 := by
  rw [bitsB_iff]
  constructor
  · intro h
    apply Nat.eq_of_testBit_eq
    intro i
    rw [Nat.zero_testBit]
    by_cases hi : i < 64
    · cases hb : m.testBit i
      · rfl
      · have := h i hi hb; omega
    · exact test_big hm (by omega)
  · rintro rfl k hk h; rw [Nat.zero_testBit] at h; cases h
theorem tail_none (od : Nat → Nat) (h : ∀ i, i < 8 → od i < 18446744073709551616) : tailB od 0 = true ↔ ∀ i, i < 8 → od i = 0 := by
  rw [tailB, Bool.and_eq_true, decide_eq_true_eq, allR_iff]
  constructor
  · rintro ⟨_, h2⟩ i hi; exact (bits_none _ (h i hi)).mp (h2 i hi)
  · intro h2; exact ⟨h2 0 (by omega), fun i hi => (bits_none _ (h i hi)).mpr (h2 i hi)⟩
theorem ord_zero (oback : Bool) (od : Nat → Nat) (h : ∀ i, i < 8 → od i < 18446744073709551616) : ordSame 0 oback od 0 false (fun _ => 0) = ordB 0 oback od := by
  rw [Bool.eq_iff_iff, ordSame_true, ordB, if_pos rfl, Bool.and_eq_true, tail_none od h]
  cases oback <;> simp
/-- the index of a row of eight masks -/
theorem run_index_8 (s : Nat → Nat) (i : Nat) (h : i < 8) (W : World) : (Instr.index 35 (.agg #[.int .u64 (s 0 : Nat), .int .u64 (s 1 : Nat), .int .u64 (s 2 : Nat), .int .u64 (s 3 : Nat), .int .u64 (s 4 : Nat), .int .u64 (s 5 : Nat), .int .u64 (s 6 : Nat), .int .u64 (s 7 : Nat)]) (.int .i64 i)).run Tryz.prog W = .ok (.int .u64 (s i : Nat)) W := by
  obtain ⟨i0, hi0, hz0, hz1, hz2⟩ := info_parts infoU64
  rcases eight h with rfl | rfl | rfl | rfl | rfl | rfl | rfl | rfl
  all_goals
    simp [Instr.index, go_sem, part, sizeOf, typeInfo, hi0, hz1]
theorem ord_cell (w : World) (oin : Int) (oback : Bool) (od : Nat → Nat) (t : TypeId) (k : Nat) (hk : k < 8) :
    (w.alloc (.cells #[.int .i64 oin, .bool oback, .int .u64 (od 0 : Nat), .int .u64 (od 1 : Nat), .int .u64 (od 2 : Nat), .int .u64 (od 3 : Nat), .int .u64 (od 4 : Nat), .int .u64 (od 5 : Nat), .int .u64 (od 6 : Nat), .int .u64 (od 7 : Nat)] t)).cell? ⟨w.heap.size, 2 + k, none⟩ = some (.int .u64 (od k : Nat)) := by
  rcases eight hk with rfl | rfl | rfl | rfl | rfl | rfl | rfl | rfl <;> simp [go_sem]

theorem ext_step {p : Nat → Bool} {k : Nat} (h : ∀ j, j < k → p j = true) (hk : p k = true) : ∀ j, j < k + 1 → p j = true := fun j hj => by
  by_cases e : j = k
  · rw [e]; exact hk
  · exact h j (by omega)
theorem allR_no {p : Nat → Bool} {n k : Nat} (hk : k < n) (h : ¬ p k = true) : allR n p = false := by
  cases hb : allR n p
  · rfl
  · exact absurd (allR_iff.mp hb k hk) h
theorem allR_yes {p : Nat → Bool} {n k : Nat} (hn : n ≤ k) (h : ∀ j, j < k → p j = true) : allR n p = true := allR_iff.mpr (fun i hi => h i (by omega))
theorem form8 (od : Nat → Nat) : (Value.agg #[.int .u64 (od 0 : Nat), .int .u64 (od 1 : Nat), .int .u64 (od 2 : Nat), .int .u64 (od 3 : Nat), .int .u64 (od 4 : Nat), .int .u64 (od 5 : Nat), .int .u64 (od 6 : Nat), .int .u64 (od 7 : Nat)]).formed Tryz.prog 35 = true := by
  unfold Value.formed; simp only [Tryz.underlying35, cells8]; rfl
theorem key8 : Tryz.prog.keyTypeAt 2 35 = true := by kernel_rfl
theorem eqIn_8 (od : Nat → Nat) (h : ∀ i, i < 8 → od i < 18446744073709551616) (W : World) :
    (Op.equalIn 9999 35 (.agg #[.int .u64 (od 0 : Nat), .int .u64 (od 1 : Nat), .int .u64 (od 2 : Nat), .int .u64 (od 3 : Nat), .int .u64 (od 4 : Nat), .int .u64 (od 5 : Nat), .int .u64 (od 6 : Nat), .int .u64 (od 7 : Nat)])
      (.agg #[.int .u64 0, .int .u64 0, .int .u64 0, .int .u64 0, .int .u64 0, .int .u64 0, .int .u64 0, .int .u64 0])).run Tryz.prog W = .ok (tailB od 0) W := by
  obtain ⟨r, hr, hi⟩ := run_equalIn_deep 9997 2 35 key8 W 3 3 _ _ _ _ (form8 od) (form8 (fun _ => 0)) (lits_8 1 od h) (lits_8 1 (fun _ => 0) (fun _ _ => by omega))
  have e : r = tailB od 0 := by
    rw [Bool.eq_iff_iff, hi, tail_none od h, all8]
    simp only [List.cons.injEq, lit_int, Int.natCast_inj, and_true]
  rw [← e]
  exact hr

set_option maxRecDepth 100000 in
set_option maxHeartbeats 3200000 in
theorem COrdTail_any (most o1 : Int) (oback : Bool) (od : Nat → Nat) (w : World) (hmost : (most = 5 ∧ o1 = (1 : Int)) ∨ (most = 53 ∧ o1 = 2)) (h : ∀ i, i < 8 → od i < 18446744073709551616) :
    Calls Tryz.prog 30 #[ordv o1 oback od] w fun e w' => e = .returned (.bool (tailB od most)) ∧ Below w.heap.size w w' := by
  have H := hid h
  have ho0 := h 0 (by omega)
  clear h
  have c1 : Hid (∀ W, Calls Tryz.prog 55 #[.int .i64 1, .int .i64 most, .int .i64 1] W fun e w' => e = .returned (.int .u64 (spanM 1 most 1 : Nat)) ∧ W = w') := fun W => Span_any 1 most 1 W (by omega) (by omega)
  have hix := hid (fun k hk W => run_index_8 od k hk W)
  have hB : Hid (Below w.heap.size w (w.alloc (Obj.cells (ordList o1 oback od).toArray 37))) := below_new (Below.refl _ _) (Nat.le_refl _)
  obtain ⟨W1, hW1⟩ : ∃ W1, w.alloc (Obj.cells (ordList o1 oback od).toArray 37) = W1 := ⟨_, rfl⟩
  have HW1 := hid hW1
  rw [hW1] at hB
  clear hW1
  by_cases hz : od 0 = 0
  · have hzb : (((od 0 : Nat) : Int) != 0) = false := by simp; omega
    obtain ⟨tb, htb⟩ : ∃ tb : Nat → Bool, tb = fun i => bitsB (od i) 1 most := ⟨_, rfl⟩
    have hT : Hid (tailB od most = allR 8 tb) := by show _ = _; rw [tailB, decide_eq_true hz, Bool.true_and, htb]
    rw [hT.out]
    obtain ⟨V, hV⟩ : ∃ V, Value.agg #[.int .u64 (od 0 : Nat), .int .u64 (od 1 : Nat), .int .u64 (od 2 : Nat), .int .u64 (od 3 : Nat), .int .u64 (od 4 : Nat), .int .u64 (od 5 : Nat), .int .u64 (od 6 : Nat), .int .u64 (od 7 : Nat)] = V := ⟨_, rfl⟩
    have HV := hid hV
    rw [hV] at hix
    have Hzb := hid hzb
    have hstep : Hid (∀ k, (hk : k < 8) → ∃ q : Nat, bits .andNot .u64 ((od k : Nat) : Int) ((spanM 1 most 1 : Nat) : Int) = q ∧ (q = 0 ↔ tb k = true)) := fun k hk =>
      ⟨lessM (od k) (spanM 1 most 1), bits_andNot (H.out k hk) (mk_lt _), by rw [less_span, htb]⟩
    clear hT hz ho0 hV hzb htb
    rcases hmost with ⟨rfl, rfl⟩ | ⟨rfl, rfl⟩
    all_goals
      have hzb := Hzb.out
      go_enter Tryz.func30, Tryz.ntmps30
      go_wp2_with fail
      rw [HV.out]
      clear hzb
      rw [HW1.out]
      go_loopw [23] (fun i wr => ∃ k : Nat, i = .int .i64 k ∧ k ≤ 8 ∧ Hid (∀ j, j < k → tb j = true) ∧ wr = W1) (fun i _ => 8 - (intOf i).toNat)
      case atStart => exact ⟨0, rfl, by omega, fun j hj => by omega, rfl⟩
      case round =>
        obtain ⟨k, rfl, hk, hI, rfl⟩ := hrel
        by_cases hlt : k < 8
        · have hix' := hix.out k hlt
          obtain ⟨q, hq1, hq2⟩ := hstep.out k hlt
          have hkI : (k : Int) < 8 := by omega
          by_cases h0 : q = 0
          · have hI2 := hid (ext_step hI.out (hq2.mp h0))
            subst h0
            rw [Int.natCast_zero] at hq1
            have Hq2 := hid hq2
            clear hq2
            go_wp2_with fail
            refine (c1.out _).mono ?_
            rintro e w' ⟨rfl, rfl⟩
            go_wp2
            exact ⟨⟨k + 1, by go_num, by omega, hI2.out, trivial⟩, by simp [intOf]; omega⟩
          · have hno := fun h => h0 (hq2.mpr h)
            have hr := hid (allR_no (p := tb) hlt hno)
            clear hno
            have hbq : ((q : Int) != 0) = true := by simp; omega
            clear hq2 h0
            go_wp2_with fail
            refine (c1.out _).mono ?_
            rintro e w' ⟨rfl, rfl⟩
            go_wp2
            go_ret
            exact ⟨by rw [hr.out]; rfl, hB.out⟩
        · have hr := hid (allR_yes (n := 8) (show 8 ≤ k by omega) hI.out)
          go_wp2
          go_ret
          exact ⟨by rw [hr.out]; rfl, hB.out⟩
  · have hr : Hid (tailB od most = false) := by show _ = _; rw [tailB, decide_eq_false hz, Bool.false_and]
    rw [hr.out]
    have hzb : (((od 0 : Nat) : Int) != 0) = true := by simp; omega
    clear hz ho0
    rcases hmost with ⟨rfl, rfl⟩ | ⟨rfl, rfl⟩
    all_goals
      go_enter Tryz.func30, Tryz.ntmps30
      go_wp2
      go_ret
      rw [HW1.out]
      exact ⟨rfl, hB.out⟩

set_option maxRecDepth 100000 in
set_option maxHeartbeats 3200000 in
theorem COrdinal_any (oin : Int) (oback : Bool) (od : Nat → Nat) (w : World) (h0 : i64B oin) (h : ∀ i, i < 8 → od i < 18446744073709551616) :
    Calls Tryz.prog 30 #[ordv oin oback od] w fun e w' => e = .returned (.bool (ordB oin oback od)) ∧ Below w.heap.size w w' := by
  have hcase : oin = 0 ∨ oin = 1 ∨ oin = 2 ∨ (oin ≠ 0 ∧ oin ≠ 1 ∧ oin ≠ 2) := by omega
  rcases hcase with rfl | rfl | rfl | ⟨n0, n1, n2⟩
  · have heq := fun W => eqIn_8 od h W
    have hr : Hid (ordB 0 oback od = (!oback && tailB od 0)) := rfl
    rw [hr.out]
    obtain ⟨r, hrr⟩ : ∃ r, tailB od 0 = r := ⟨_, rfl⟩
    rw [hrr] at heq ⊢
    clear hrr h hr
    cases r <;> cases oback
    all_goals
      go_enter Tryz.func30, Tryz.ntmps30
      go_wp2
      go_ret
      exact ⟨by first | rfl | exact ret_bool (by simp), below_new (Below.refl _ _) (Nat.le_refl _)⟩
  · exact COrdTail_any 5 1 oback od w (.inl ⟨rfl, rfl⟩) h
  · exact COrdTail_any 53 2 oback od w (.inr ⟨rfl, rfl⟩) h
  · have hr : Hid (ordB oin oback od = false) := by show _ = _; rw [ordB, if_neg n0, if_neg n1, if_neg n2]
    have b0 : (oin == 0) = false := by simpa using n0
    have b1 : (oin == 1) = false := by simpa using n1
    have b2 : (oin == 2) = false := by simpa using n2
    rw [hr.out]
    clear h n0 n1 n2
    go_enter Tryz.func30, Tryz.ntmps30
    go_wp2
    go_ret
    exact ⟨rfl, below_new (Below.refl _ _) (Nat.le_refl _)⟩

/-- the document's loop over an Ord's days -/
theorem tail_doc (od : Nat → Nat) (most : Int) (h0 : od 0 = 0) : tailB od most = allR 8 (fun i => i == 0 || bitsB (od i) 1 most) := by
  rw [tailB, decide_eq_true h0, Bool.true_and, Bool.eq_iff_iff, allR_iff, allR_iff]
  refine forall_congr' fun i => forall_congr' fun hi => ?_
  by_cases e : i = 0
  · subst e
    rw [h0]
    simp only [beq_self_eq_true, Bool.true_or, iff_true]
    rw [bitsB_iff]
    intro k _ hk; rw [Nat.zero_testBit] at hk; cases hk
  · simp [e]
set_option maxRecDepth 100000 in
set_option maxHeartbeats 3200000 in
theorem ROrdTail_any (most o1 : Int) (oback : Bool) (od : Nat → Nat) (w : World) (hmost : (most = 5 ∧ o1 = (1 : Int)) ∨ (most = 53 ∧ o1 = 2) ∨ (most = 0 ∧ o1 = 0 ∧ oback = false)) (h : ∀ i, i < 8 → od i < 18446744073709551616) :
    Calls Tryz.prog 51 #[ordv o1 oback od] w fun e w' => e = .returned (.bool (tailB od most)) ∧ Below w.heap.size w w' := by
  have H := hid h
  have ho0 := h 0 (by omega)
  clear h
  have c1 := hid (fun k (hk : k < 8) W => RBits_any (od k) 1 most W (H.out k hk))
  have hB : Hid (Below w.heap.size w (w.alloc (Obj.cells (ordList o1 oback od).toArray 37))) := below_new (Below.refl _ _) (Nat.le_refl _)
  have hce := hid (fun k hk => ord_cell w o1 oback od 37 k hk)
  obtain ⟨W1, hW1⟩ : ∃ W1, w.alloc (Obj.cells (ordList o1 oback od).toArray 37) = W1 := ⟨_, rfl⟩
  have HW1 := hid hW1
  rw [hW1] at hB
  have hce1 : Hid (∀ k, k < 8 → W1.cell? ⟨w.heap.size, 2 + k, none⟩ = some (.int .u64 (od k : Nat))) := fun k hk => by rw [← hW1]; exact hce.out k hk
  clear hW1 hce
  by_cases hz : od 0 = 0
  · have hzb : (((od 0 : Nat) : Int) != 0) = false := by simp; omega
    rw [tail_doc od most hz]
    obtain ⟨tb, htb⟩ : ∃ tb : Nat → Bool, tb = fun i => bitsB (od i) 1 most := ⟨_, rfl⟩
    have c1' : Hid (∀ k, k < 8 → ∀ W, Calls Tryz.prog 50 #[.int .u64 (od k : Nat), .int .i64 1, .int .i64 most] W fun e w' => e = .returned (.bool (tb k)) ∧ W = w') := by rw [htb]; exact c1.out
    rw [show (fun i => i == 0 || bitsB (od i) 1 most) = fun i => i == 0 || tb i by rw [htb]]
    have Hzb := hid hzb
    clear hz ho0 hzb htb c1
    rcases hmost with ⟨rfl, rfl⟩ | ⟨rfl, rfl⟩ | ⟨rfl, rfl, rfl⟩
    all_goals
      have hzb := Hzb.out
      go_enter Tryz.func51, Tryz.ntmps51
      go_wp2_with fail
      rw [HW1.out]
      clear hzb
      go_loopw [4] (fun i wr => ∃ k : Nat, i = .int .i64 k ∧ 1 ≤ k ∧ k ≤ 8 ∧ Hid (∀ j, j < k → (j == 0 || tb j) = true) ∧ wr = W1) (fun i _ => 8 - (intOf i).toNat)
      case atStart => exact ⟨1, rfl, by omega, by omega, fun j hj => by
        obtain rfl : j = 0 := by omega
        rfl, rfl⟩
      case round =>
        obtain ⟨k, rfl, hk1, hk, hI, rfl⟩ := hrel
        by_cases hlt : k < 8
        · have e1 := hce1.out k hlt
          have d1 := hid (c1'.out k hlt wr)
          have hkI : (k : Int) < 8 := by omega
          have hk0 : Hid ((k == 0) = false) := by show _ = _; simp; omega
          cases hb : tb k
          · rw [hb] at d1
            have hno : ¬ (k == 0 || tb k) = true := by rw [hk0.out, hb]; simp
            have hr := hid (allR_no (p := fun j => j == 0 || tb j) hlt hno)
            clear hno hb
            go_wp2_with fail
            refine d1.out.mono ?_
            rintro e w' ⟨rfl, rfl⟩
            go_wp2
            go_ret
            exact ⟨by rw [hr.out]; rfl, hB.out⟩
          · rw [hb] at d1
            have hyes : (k == 0 || tb k) = true := by rw [hb]; simp
            have hI2 := hid (ext_step (p := fun j => j == 0 || tb j) hI.out hyes)
            clear hyes hb
            go_wp2_with fail
            refine d1.out.mono ?_
            rintro e w' ⟨rfl, rfl⟩
            go_wp2
            exact ⟨⟨k + 1, by go_num, by omega, by omega, hI2.out, trivial⟩, by simp [intOf]; omega⟩
        · have hr := hid (allR_yes (n := 8) (show 8 ≤ k by omega) hI.out)
          go_wp2
          go_ret
          exact ⟨by rw [hr.out]; rfl, hB.out⟩
  · have hr : Hid (tailB od most = false) := by show _ = _; rw [tailB, decide_eq_false hz, Bool.false_and]
    rw [hr.out]
    have hzb : (((od 0 : Nat) : Int) != 0) = true := by simp; omega
    clear hz ho0
    rcases hmost with ⟨rfl, rfl⟩ | ⟨rfl, rfl⟩ | ⟨rfl, rfl, rfl⟩
    all_goals
      go_enter Tryz.func51, Tryz.ntmps51
      go_wp2
      go_ret
      rw [HW1.out]
      exact ⟨rfl, hB.out⟩
set_option maxHeartbeats 1600000 in
theorem ROrd13_any (oin : Int) (oback : Bool) (od : Nat → Nat) (w : World) (h0 : i64B oin) (h : ∀ i, i < 8 → od i < 18446744073709551616) :
    Calls Tryz.prog 51 #[ordv oin oback od] w fun e w' => e = .returned (.bool (ordB oin oback od)) ∧ Below w.heap.size w w' := by
  have hcase : oin = 0 ∨ oin = 1 ∨ oin = 2 ∨ oin < 0 ∨ 2 < oin := by omega
  rcases hcase with rfl | rfl | rfl | hn | hn
  · cases oback
    · rw [show ordB 0 false od = tailB od 0 from rfl]
      exact ROrdTail_any 0 0 false od w (.inr (.inr ⟨rfl, rfl, rfl⟩)) h
    · rw [show ordB 0 true od = false from rfl]
      go_enter Tryz.func51, Tryz.ntmps51
      go_wp2
      go_ret
      exact ⟨rfl, below_new (Below.refl _ _) (Nat.le_refl _)⟩
  · exact ROrdTail_any 5 1 oback od w (.inl ⟨rfl, rfl⟩) h
  · exact ROrdTail_any 53 2 oback od w (.inr (.inl ⟨rfl, rfl⟩)) h
  · have hr : Hid (ordB oin oback od = false) := by show _ = _; rw [ordB, if_neg (by omega), if_neg (by omega), if_neg (by omega)]
    rw [hr.out]
    clear h
    have b0 : (oin == 0) = false := by simp; omega
    have b2 : (oin == 2) = false := by simp; omega
    go_enter Tryz.func51, Tryz.ntmps51
    go_wp2
    go_ret
    exact ⟨rfl, below_new (Below.refl _ _) (Nat.le_refl _)⟩
  · have hr : Hid (ordB oin oback od = false) := by show _ = _; rw [ordB, if_neg (by omega), if_neg (by omega), if_neg (by omega)]
    rw [hr.out]
    clear h
    have b0 : (oin == 0) = false := by simp; omega
    have b2 : (oin == 2) = false := by simp; omega
    have b3 : ¬ oin < 0 := by omega
    go_enter Tryz.func51, Tryz.ntmps51
    go_wp2
    go_ret
    exact ⟨rfl, below_new (Below.refl _ _) (Nat.le_refl _)⟩
end Go.Proofs.YtgiecadlliblpaaGreat

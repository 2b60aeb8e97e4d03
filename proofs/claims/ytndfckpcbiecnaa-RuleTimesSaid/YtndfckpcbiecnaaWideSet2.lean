/-
  What may, May, Has and Len of wide, and Has and List of feriaref04, compute.
-/
import Derived.Test.YtndfckpcbiecnaaWideSet
import Derived.ChangeKeysEq
import Derived.Deep.RegionHeld3
namespace Go.Proofs.Ytndfckpcbiecnaa
open Go.RowKit
set_option linter.unusedVariables false

def eqW (s t : Nat → Nat) : Bool := (List.range 7).all (fun i => s i == t i)
theorem eqW_iff (s t : Nat → Nat) : eqW s t = true ↔ ∀ i, i < 7 → s i = t i := by
  rw [eqW, List.all_eq_true]
  simp
theorem part_wv (s : Nat → Nat) (i : Nat) (h : i < 7) (W : World) : (part 22 #[.int .u64 (s 0 : Nat), .int .u64 (s 1 : Nat), .int .u64 (s 2 : Nat), .int .u64 (s 3 : Nat), .int .u64 (s 4 : Nat), .int .u64 (s 5 : Nat), .int .u64 (s 6 : Nat)] (i * Try.prog.cellsOf 22)).run Try.prog W = .ok (.int .u64 (s i : Nat)) W := by
  rw [show Try.prog.cellsOf 22 = 1 by kernel_rfl]
  rcases seven h with rfl | rfl | rfl | rfl | rfl | rfl | rfl
  all_goals
    simp [go_sem, part]
theorem run_eql_wv (s t : Nat → Nat) (W : World) : (binOp .eql 26 (wv s) (wv t)).run Try.prog W = .ok (.bool (eqW s t)) W := by
  obtain ⟨i0, hi0, hz0, hz1, hz2⟩ := info_parts infoU64
  rw [run_eql_struct, show (10000 : Nat) = 9999 + 1 from rfl, run_equalIn_array W 9999 _ _ Try.underlying26 hi0, eqW]
  have hl : ∀ i ∈ List.range 7, i < 7 := fun i hi => by simpa using hi
  generalize List.range 7 = l at hl ⊢
  have key : (Op.eqItems 9999 22 (Try.prog.cellsOf 22) #[.int .u64 (s 0 : Nat), .int .u64 (s 1 : Nat), .int .u64 (s 2 : Nat), .int .u64 (s 3 : Nat), .int .u64 (s 4 : Nat), .int .u64 (s 5 : Nat), .int .u64 (s 6 : Nat)]
      #[.int .u64 (t 0 : Nat), .int .u64 (t 1 : Nat), .int .u64 (t 2 : Nat), .int .u64 (t 3 : Nat), .int .u64 (t 4 : Nat), .int .u64 (t 5 : Nat), .int .u64 (t 6 : Nat)] l).run Try.prog W = .ok (l.all (fun i => s i == t i)) W := by
    induction l with
    | nil => simp [Op.eqItems]
    | cons i l ih =>
      have hi : i < 7 := hl i (by simp)
      have pe : (Op.equalIn 9999 22 (.int .u64 (s i : Nat)) (.int .u64 (t i : Nat))).run Try.prog W = .ok ((s i : Int) == (t i : Int)) W := by
        rw [show (9999 : Nat) = 9998 + 1 from rfl, run_equalIn_int W 9998 22 .u64 .u64 _ _ Try.underlying22]
      simp only [Op.eqItems, Sem.run_bind, part_wv s i hi W, part_wv t i hi W, pe, Result.andThen_ok, List.all_cons]
      have hb : ((s i : Int) == (t i : Int)) = (s i == t i) := by rw [Bool.eq_iff_iff]; simp; omega
      rw [hb]
      cases hc : (s i == t i)
      · simp
      · simp only [Bool.not_true, Bool.false_eq_true, if_false, Bool.true_and]
        exact ih fun j hj => hl j (by simp [hj])
  rw [key]
  rfl

def mayB (n : Int) : Bool := decide (0 ≤ n) && decide (n < 400)
theorem WMayN_any (n : Int) (w : World) : Calls Try.prog 155 #[.int .i64 n] w fun e w' => e = .returned (.bool (mayB n)) ∧ w = w' := by
  unfold mayB
  by_cases h0 : 0 ≤ n
  · by_cases h1 : n < 400
    · go_enter Try.func155, Try.ntmps155
      go_wp2
      go_ret
      exact ⟨ret_bool (by rw [Bool.eq_iff_iff]; simp; omega), rfl⟩
    · go_enter Try.func155, Try.ntmps155
      go_wp2
      go_ret
      exact ⟨ret_bool (by rw [Bool.eq_iff_iff]; simp; omega), rfl⟩
  · go_enter Try.func155, Try.ntmps155
    go_wp2
    go_ret
    exact ⟨ret_bool (by rw [Bool.eq_iff_iff]; simp; omega), rfl⟩

/-- the box of a set -/
abbrev BoxS (w : World) (s : Nat → Nat) (W : World) : Prop :=
  W.cell? ⟨w.heap.size, 0, none⟩ = some (.int .u64 (s 0 : Nat)) ∧ W.cell? ⟨w.heap.size, 1, none⟩ = some (.int .u64 (s 1 : Nat)) ∧ W.cell? ⟨w.heap.size, 2, none⟩ = some (.int .u64 (s 2 : Nat)) ∧ W.cell? ⟨w.heap.size, 3, none⟩ = some (.int .u64 (s 3 : Nat)) ∧
  W.cell? ⟨w.heap.size, 4, none⟩ = some (.int .u64 (s 4 : Nat)) ∧ W.cell? ⟨w.heap.size, 5, none⟩ = some (.int .u64 (s 5 : Nat)) ∧ W.cell? ⟨w.heap.size, 6, none⟩ = some (.int .u64 (s 6 : Nat)) ∧ Below w.heap.size w W ∧ w.heap.size < W.heap.size
theorem BoxS.keep {w W W' : World} {s : Nat → Nat} (h : BoxS w s W) (hb : Below W.heap.size W W') : BoxS w s W' := by
  obtain ⟨h0, h1, h2, h3, h4, h5, h6, h7, h8⟩ := h
  exact ⟨(hb.cell (p := ⟨w.heap.size, 0, none⟩) h8).trans h0, (hb.cell (p := ⟨w.heap.size, 1, none⟩) h8).trans h1, (hb.cell (p := ⟨w.heap.size, 2, none⟩) h8).trans h2, (hb.cell (p := ⟨w.heap.size, 3, none⟩) h8).trans h3,
    (hb.cell (p := ⟨w.heap.size, 4, none⟩) h8).trans h4, (hb.cell (p := ⟨w.heap.size, 5, none⟩) h8).trans h5, (hb.cell (p := ⟨w.heap.size, 6, none⟩) h8).trans h6, h7.trans (hb.mono (by omega)), Nat.lt_of_lt_of_le h8 hb.size⟩

set_option maxHeartbeats 800000 in
theorem WMay_any (s : Nat → Nat) (w : World) (hs : ∀ i, i < 7 → s i < 18446744073709551616) :
    Calls Try.prog 62 #[wv s] w fun e w' => e = .returned (.bool (eqW (inW s) s)) ∧ Below w.heap.size w w' := by
  have c1 := hid (fun W => Within_any s W hs)
  have heq := fun W => run_eql_wv (inW s) s W
  have hB0 : Below w.heap.size w (w.alloc (.cells #[.int .u64 (s 0 : Nat), .int .u64 (s 1 : Nat), .int .u64 (s 2 : Nat), .int .u64 (s 3 : Nat), .int .u64 (s 4 : Nat), .int .u64 (s 5 : Nat), .int .u64 (s 6 : Nat)] 26)) := below_new (Below.refl _ _) (Nat.le_refl _)
  have HS0 : Hid (BoxS w s (w.alloc (.cells #[.int .u64 (s 0 : Nat), .int .u64 (s 1 : Nat), .int .u64 (s 2 : Nat), .int .u64 (s 3 : Nat), .int .u64 (s 4 : Nat), .int .u64 (s 5 : Nat), .int .u64 (s 6 : Nat)] 26)).drew) := by
    obtain ⟨r0, r1, r2, r3, r4, r5, r6⟩ := (wcells_new w s 26).all
    exact ⟨r0, r1, r2, r3, r4, r5, r6, hB0.drew, by simp [go_sem]⟩
  have c2 := hid (fun W (h : BoxS w s W) => keep_of (c1.out W) (fun _ => h.keep))
  clear hB0
  go_enter Try.func62, Try.ntmps62
  go_wp2_with fail
  go_region_held3 (fun w' => BoxS w s w') (first | exact HS0.out | assumption)
    (first
      | (go_at_call 126; refine (c2.out _ (by assumption)).mono ?_; rintro e w' ⟨rfl, hS⟩))
  go_wp2
  go_ret
  exact ⟨rfl, (‹BoxS w s _›).2.2.2.2.2.2.2.1⟩

/-- which numbers a set has -/
def bitW (s : Nat → Nat) (k : Nat) : Bool := (s (k / 64)).testBit (k % 64)
def hasW (s : Nat → Nat) (n : Int) : Bool := mayB n && bitW s n.toNat

set_option maxHeartbeats 800000 in
theorem WHas_any (s : Nat → Nat) (n : Int) (w : World) (hs : ∀ i, i < 7 → s i < 18446744073709551616) :
    Calls Try.prog 105 #[wv s, .int .i64 n] w fun e w' => e = .returned (.bool (hasW s n)) ∧ Below w.heap.size w w' := by
  have c1 := hid (fun W => WMayN_any n W)
  unfold hasW
  by_cases hb : mayB n = true
  · rw [hb] at c1 ⊢
    rw [mayB] at hb
    simp at hb
    obtain ⟨k, rfl⟩ : ∃ k : Nat, n = k := ⟨n.toNat, by omega⟩
    have hk : k < 400 := by omega
    have hc := wcells_new w s 26
    have e1 := hc (k / 64) (by omega)
    have c2 := hid (fun W => Has_any (s (k / 64)) ((k % 64 : Nat) : Int) W (hs _ (by omega)))
    rw [hasB_nat, show ((k % 64 : Nat) : Int) = (k : Int) % 64 by simp] at c2
    have hlt : k / 64 < 7 := by omega
    clear hb hc
    go_enter Try.func105, Try.ntmps105
    go_wp2_with fail
    refine (c1.out _).mono ?_
    rintro e w' ⟨rfl, rfl⟩
    go_wp2_with fail
    refine (c2.out _).mono ?_
    rintro e w' ⟨rfl, rfl⟩
    go_wp2
    go_ret
    exact ⟨by simp [bitW], below_new (Below.refl _ _) (Nat.le_refl _)⟩
  · have hb' : mayB n = false := by simpa using hb
    rw [hb'] at c1 ⊢
    clear hb hb'
    go_enter Try.func105, Try.ntmps105
    go_wp2_with fail
    refine (c1.out _).mono ?_
    rintro e w' ⟨rfl, rfl⟩
    go_wp2
    go_ret
    exact ⟨rfl, below_new (Below.refl _ _) (Nat.le_refl _)⟩

set_option maxHeartbeats 800000 in
theorem RHasW_any (s : Nat → Nat) (n : Int) (w : World) (hs : ∀ i, i < 7 → s i < 18446744073709551616) :
    Calls Try.prog 128 #[wv s, .int .i64 n] w fun e w' => e = .returned (.bool (hasW s n)) ∧ Below w.heap.size w w' := by
  unfold hasW
  by_cases h0 : 0 ≤ n
  · by_cases h1 : n < 400
    · have hb : mayB n = true := by simp [mayB]; omega
      rw [hb]
      obtain ⟨k, rfl⟩ : ∃ k : Nat, n = k := ⟨n.toNat, by omega⟩
      have hk : k < 400 := by omega
      have hc := wcells_new w s 26
      have e1 := hc (k / 64) (by omega)
      have c2 := hid (fun W => RHas_any (s (k / 64)) ((k % 64 : Nat) : Int) W (hs _ (by omega)))
      rw [hasB_nat, show ((k % 64 : Nat) : Int) = (k : Int) % 64 by simp] at c2
      have hm7 : k / 64 % 7 = k / 64 := by omega
      have hlt : k / 64 < 7 := by omega
      have e1' : (w.alloc (.cells #[.int .u64 (s 0 : Nat), .int .u64 (s 1 : Nat), .int .u64 (s 2 : Nat), .int .u64 (s 3 : Nat), .int .u64 (s 4 : Nat), .int .u64 (s 5 : Nat), .int .u64 (s 6 : Nat)] 26)).cell? ⟨w.heap.size, k / 64 % 7, none⟩ = some (.int .u64 (s (k / 64) : Nat)) := by rw [hm7]; exact e1
      have hlt' : k / 64 % 7 < 7 := by omega
      have hkI : (k : Int) < 400 := by omega
      have Hk := hid hk
      clear hc hb h0 h1 hm7 hk e1 hlt
      by_cases hk0 : 0 < k
      · go_enter Try.func128, Try.ntmps128
        go_wp2_with fail
        refine (c2.out _).mono ?_
        rintro e w' ⟨rfl, rfl⟩
        go_wp2
        go_ret
        exact ⟨by simp [bitW], below_new (Below.refl _ _) (Nat.le_refl _)⟩
      · obtain rfl : k = 0 := by omega
        have c3 : Hid (∀ W, Calls Try.prog 26 #[.int .u64 (s 0 : Nat), .int .i64 0] W fun e w' => e = .returned (.bool ((s 0).testBit 0)) ∧ W = w') := fun W => RHas_any (s 0) 0 W (hs 0 (by omega))
        have f1 := (wcells_new w s 26) 0 (by omega)
        clear e1' hlt' c2 hkI hk0
        go_enter Try.func128, Try.ntmps128
        go_wp2_with fail
        refine (c3.out _).mono ?_
        rintro e w' ⟨rfl, rfl⟩
        go_wp2
        go_ret
        exact ⟨by simp [bitW], below_new (Below.refl _ _) (Nat.le_refl _)⟩
    · have hb : mayB n = false := by simp [mayB]; omega
      rw [hb]
      clear hb
      go_enter Try.func128, Try.ntmps128
      go_wp2
      go_ret
      exact ⟨rfl, below_new (Below.refl _ _) (Nat.le_refl _)⟩
  · have hb : mayB n = false := by simp [mayB]; omega
    rw [hb]
    clear hb
    go_enter Try.func128, Try.ntmps128
    go_wp2
    go_ret
    exact ⟨rfl, below_new (Below.refl _ _) (Nat.le_refl _)⟩

def lenW (t : Nat → Nat) : Nat → Nat
  | 0 => 0
  | n + 1 => lenW t n + Lib.popAux 64 (t n)
theorem lenW_succ (t : Nat → Nat) (n : Nat) : lenW t (n + 1) = lenW t n + Lib.popAux 64 (t n) := rfl
theorem lenW_le (t : Nat → Nat) : ∀ n, lenW t n ≤ 64 * n
  | 0 => Nat.le_refl _
  | n + 1 => by
    have := lenW_le t n
    have h : Lib.popAux 64 (t n) ≤ 64 := by rw [← sel_pop]; exact sel_len _ _
    rw [lenW]; omega
def lenOf (s : Nat → Nat) : Nat := lenW (inW s) 7
end Go.Proofs.Ytndfckpcbiecnaa

/-
  unit.Days: the functions that tell whether a day may have instants on a step.
-/
import Derived.Test.YtndfckpcbiecnaaUnitOn
import Derived.Deep.RegionHeld3
namespace Go.Proofs.Ytndfckpcbiecnaa
open Go.RowKit
set_option linter.unusedVariables false

theorem shN_ten (n : Int) : ∃ a0 a1 a2 a3 a4 a5 a6 a7 a8 a9 : Int, shN n = sh10 a0 a1 a2 a3 a4 a5 a6 a7 a8 a9 := ⟨_, _, _, _, _, _, _, _, _, _, rfl⟩
theorem UD1_any (n : Int) (w : World) : Calls Try.prog 151 #[shN n] w fun e w' => e = .returned (.bool false) ∧ Below w.heap.size w w' := by
  obtain ⟨a0, a1, a2, a3, a4, a5, a6, a7, a8, a9, hs⟩ := shN_ten n
  rw [hs]; clear hs
  go_enter Try.func151, Try.ntmps151
  go_wp2
  go_ret
  exact ⟨rfl, below_new (Below.refl _ _) (Nat.le_refl _)⟩
theorem UD2_any (n : Int) (w : World) : Calls Try.prog 152 #[shN n] w fun e w' => e = .returned (.bool true) ∧ Below w.heap.size w w' := by
  obtain ⟨a0, a1, a2, a3, a4, a5, a6, a7, a8, a9, hs⟩ := shN_ten n
  rw [hs]; clear hs
  go_enter Try.func152, Try.ntmps152
  go_wp2
  go_ret
  exact ⟨rfl, below_new (Below.refl _ _) (Nat.le_refl _)⟩
/-- three boxes of the step's function -/
structure Box3 (W : World) (b3 b7 b4 : Nat) (u a s : Int) : Prop where
  c3 : W.cell? ⟨b3, 0, none⟩ = some (.int .i64 u)
  c7 : W.cell? ⟨b7, 0, none⟩ = some (.int .i64 a)
  c4 : W.cell? ⟨b4, 0, none⟩ = some (.int .i64 s)
  l3 : b3 < W.heap.size
  l7 : b7 < W.heap.size
  l4 : b4 < W.heap.size
theorem Box3.keep {W W' : World} {b3 b7 b4 : Nat} {u a s : Int} (h : Box3 W b3 b7 b4 u a s) (hs : W.heap.size ≤ W'.heap.size) (hb : ∀ b, b = b3 ∨ b = b7 ∨ b = b4 → W'.heap[b]? = W.heap[b]?) : Box3 W' b3 b7 b4 u a s :=
  ⟨(World.cell?_of_block (w := W) (a := ⟨b3, 0, none⟩) (hb b3 (.inl rfl))).trans h.c3, (World.cell?_of_block (w := W) (a := ⟨b7, 0, none⟩) (hb b7 (.inr (.inl rfl)))).trans h.c7, (World.cell?_of_block (w := W) (a := ⟨b4, 0, none⟩) (hb b4 (.inr (.inr rfl)))).trans h.c4,
    Nat.lt_of_lt_of_le h.l3 hs, Nat.lt_of_lt_of_le h.l7 hs, Nat.lt_of_lt_of_le h.l4 hs⟩
theorem Box3.below {W W' : World} {b3 b7 b4 : Nat} {u a s : Int} (h : Box3 W b3 b7 b4 u a s) (hb : Below W.heap.size W W') : Box3 W' b3 b7 b4 u a s :=
  h.keep hb.size (fun b hb' => by
    rcases hb' with rfl | rfl | rfl
    · exact hb.block _ h.l3
    · exact hb.block _ h.l7
    · exact hb.block _ h.l4)
/-- ten cells of a block, as a shape has them -/
abbrev ShC (W : World) (b : Nat) (a0 a1 a2 a3 a4 a5 a6 a7 a8 a9 : Int) : Prop :=
  W.cell? ⟨b, 0, none⟩ = some (.int .i64 a0) ∧ W.cell? ⟨b, 1, none⟩ = some (.int .i64 a1) ∧ W.cell? ⟨b, 2, none⟩ = some (.int .i64 a2) ∧ W.cell? ⟨b, 3, none⟩ = some (.int .i64 a3) ∧ W.cell? ⟨b, 4, none⟩ = some (.int .i64 a4) ∧
  W.cell? ⟨b, 5, none⟩ = some (.int .i64 a5) ∧ W.cell? ⟨b, 6, none⟩ = some (.int .i64 a6) ∧ W.cell? ⟨b, 7, none⟩ = some (.int .i64 a7) ∧ W.cell? ⟨b, 8, none⟩ = some (.int .i64 a8) ∧ W.cell? ⟨b, 9, none⟩ = some (.int .i64 a9)
theorem ShC.below {W W' : World} {b B : Nat} {a0 a1 a2 a3 a4 a5 a6 a7 a8 a9 : Int} (h : ShC W b a0 a1 a2 a3 a4 a5 a6 a7 a8 a9) (hb : Below B W W') (hB : b < B) : ShC W' b a0 a1 a2 a3 a4 a5 a6 a7 a8 a9 := by
  obtain ⟨h0, h1, h2, h3, h4, h5, h6, h7, h8, h9⟩ := h
  exact ⟨(hb.cell (p := ⟨b, 0, none⟩) hB).trans h0, (hb.cell (p := ⟨b, 1, none⟩) hB).trans h1, (hb.cell (p := ⟨b, 2, none⟩) hB).trans h2, (hb.cell (p := ⟨b, 3, none⟩) hB).trans h3, (hb.cell (p := ⟨b, 4, none⟩) hB).trans h4,
    (hb.cell (p := ⟨b, 5, none⟩) hB).trans h5, (hb.cell (p := ⟨b, 6, none⟩) hB).trans h6, (hb.cell (p := ⟨b, 7, none⟩) hB).trans h7, (hb.cell (p := ⟨b, 8, none⟩) hB).trans h8, (hb.cell (p := ⟨b, 9, none⟩) hB).trans h9⟩
theorem shC_new (w : World) (t : TypeId) (a0 a1 a2 a3 a4 a5 a6 a7 a8 a9 : Int) : ShC (w.alloc (.cells #[.int .i64 a0, .int .i64 a1, .int .i64 a2, .int .i64 a3, .int .i64 a4, .int .i64 a5, .int .i64 a6, .int .i64 a7, .int .i64 a8, .int .i64 a9] t)) w.heap.size a0 a1 a2 a3 a4 a5 a6 a7 a8 a9 := by
  refine ⟨?_, ?_, ?_, ?_, ?_, ?_, ?_, ?_, ?_, ?_⟩ <;> simp [go_sem]
abbrev S3 (w : World) (b3 b7 b4 : Nat) (u a s a0 a1 a2 a3 a4 a5 a6 a7 a8 a9 : Int) (W : World) : Prop :=
  W.cell? ⟨b3, 0, none⟩ = some (.int .i64 u) ∧ W.cell? ⟨b7, 0, none⟩ = some (.int .i64 a) ∧ W.cell? ⟨b4, 0, none⟩ = some (.int .i64 s) ∧ ShC W w.heap.size a0 a1 a2 a3 a4 a5 a6 a7 a8 a9 ∧
  (b3 < W.heap.size ∧ b7 < W.heap.size ∧ b4 < W.heap.size) ∧ Below w.heap.size w W ∧ w.heap.size < W.heap.size
theorem S3.keep {w W W' : World} {b3 b7 b4 : Nat} {u a s a0 a1 a2 a3 a4 a5 a6 a7 a8 a9 : Int} (h : S3 w b3 b7 b4 u a s a0 a1 a2 a3 a4 a5 a6 a7 a8 a9 W) (hb : Below W.heap.size W W') : S3 w b3 b7 b4 u a s a0 a1 a2 a3 a4 a5 a6 a7 a8 a9 W' := by
  obtain ⟨h1, h2, h3, h4, ⟨l1, l2, l3⟩, h5, h6⟩ := h
  exact ⟨(hb.cell (p := ⟨b3, 0, none⟩) l1).trans h1, (hb.cell (p := ⟨b7, 0, none⟩) l2).trans h2, (hb.cell (p := ⟨b4, 0, none⟩) l3).trans h3, h4.below hb h6, ⟨Nat.lt_of_lt_of_le l1 hb.size, Nat.lt_of_lt_of_le l2 hb.size, Nat.lt_of_lt_of_le l3 hb.size⟩, h5.trans (hb.mono (by omega)), Nat.lt_of_lt_of_le h6 hb.size⟩
/-- a contract, with a condition on the world that it keeps -/
theorem keep_of' {P : Program} {f : FuncId} {args : Array Value} {W : World} {v : Value} {S : World → Prop} (h : Calls P f args W fun e w' => e = .returned v ∧ Below W.heap.size W w') (hk : ∀ w', Below W.heap.size W w' → S w') :
    Calls P f args W fun e w' => e = .returned v ∧ S w' := h.mono fun e w' ⟨h1, h2⟩ => ⟨h1, hk w' h2⟩
set_option maxHeartbeats 1600000 in
theorem UD3_any (n u a s : Int) (b3 b7 b4 : Nat) (w : World) (h0 : 0 ≤ n) (h1 : n < 146097) (hu0 : 3 ≤ u) (hu1 : u ≤ 6) (hs : 1 ≤ s) (hs2 : s ≤ 9223372036854775807) (ha0 : 0 ≤ a) (ha1 : a < 12622780800) (hB : Box3 w b3 b7 b4 u a s) :
    Calls Try.prog 153 #[shN n, .pointer (some ⟨b3, 0, none⟩), .pointer (some ⟨b7, 0, none⟩), .pointer (some ⟨b4, 0, none⟩)] w fun e w' => e = .returned (.bool (stepB s (whD u n - a))) ∧ Below w.heap.size w w' := by
  have c1 : Hid (∀ W, Calls Try.prog 154 #[.int .i64 u, shN n] W fun e w' => e = .returned (.int .i64 (whD u n)) ∧ Below W.heap.size W w') := fun W => OfDay_any u n W hu0 hu1 h0 h1
  have bd := whD_bd (u := u) h0 h1
  have hr : Hid (stepB s (whD u n - a) = ((whD u n - a).tmod s == 0)) := by show _ = _; rw [stepB, decide_eq_true hs, Bool.true_and, tmod_zero]
  obtain ⟨a0, a1, a2, a3, a4, a5, a6, a7, a8, a9, hsh⟩ := shN_ten n
  rw [hsh] at c1 ⊢
  obtain ⟨x, hx⟩ : ∃ x, whD u n = x := ⟨_, rfl⟩
  rw [hx] at c1 bd hr ⊢
  clear hsh hx
  have HS0 : Hid (S3 w b3 b7 b4 u a s a0 a1 a2 a3 a4 a5 a6 a7 a8 a9 (w.alloc (.cells #[.int .i64 a0, .int .i64 a1, .int .i64 a2, .int .i64 a3, .int .i64 a4, .int .i64 a5, .int .i64 a6, .int .i64 a7, .int .i64 a8, .int .i64 a9] 60)).drew) := by
    have hb := below_new (o := .cells #[.int .i64 a0, .int .i64 a1, .int .i64 a2, .int .i64 a3, .int .i64 a4, .int .i64 a5, .int .i64 a6, .int .i64 a7, .int .i64 a8, .int .i64 a9] 60) (Below.refl w.heap.size w) (Nat.le_refl _)
    have h2 := hB.below hb
    exact ⟨h2.c3, h2.c7, h2.c4, shC_new w _ _ _ _ _ _ _ _ _ _ _, ⟨h2.l3, h2.l7, h2.l4⟩, hb.drew, by show _ < (World.alloc _ _).heap.size; simp⟩
  have c2 := hid (fun W (h : S3 w b3 b7 b4 u a s a0 a1 a2 a3 a4 a5 a6 a7 a8 a9 W) => keep_of' (c1.out W) (fun _ => h.keep))
  clear hB c1
  have hsn : ¬ s = 0 := by omega
  go_enter Try.func153, Try.ntmps153
  go_wp2_with fail
  go_region_held3 (fun w' => S3 w b3 b7 b4 u a s a0 a1 a2 a3 a4 a5 a6 a7 a8 a9 w') (first | exact HS0.out | assumption)
    (first
      | (go_at_call 154; refine (c2.out _ (by assumption)).mono ?_; rintro e w' ⟨rfl, hS⟩))
  go_wp2
  go_ret
  refine ⟨?_, (‹S3 w b3 b7 b4 u a s a0 a1 a2 a3 a4 a5 a6 a7 a8 a9 _›).2.2.2.2.2.1⟩
  rw [hr.out]
  refine ret_bool ?_
  rw [IntKind.wrap_i64]
  congr 2
  omega

/-- what unit.Days hands back -/
def UDV (W : World) (lo : Nat) (u s a : Int) (fv : Value) : Prop :=
  ((whichB u a = false ∨ s < 1) ∧ fv = .func (.func 151) #[] #[]) ∨
  (whichB u a = true ∧ 1 ≤ s ∧ (0 < sizeU u ∨ s = 1) ∧ fv = .func (.func 152) #[] #[]) ∨
  (whichB u a = true ∧ 1 ≤ s ∧ sizeU u = 0 ∧ ∃ b3 b7 b4, fv = .func (.func 153) #[] #[.pointer (some ⟨b3, 0, none⟩), .pointer (some ⟨b7, 0, none⟩), .pointer (some ⟨b4, 0, none⟩)] ∧ Box3 W b3 b7 b4 u (whichI u a) s ∧ lo ≤ b3 ∧ lo ≤ b7 ∧ lo ≤ b4)
/-- may a day have instants on the step -/
def dayOn (u s a n : Int) : Bool := whichB u a && (decide (1 ≤ s) && (decide (0 < sizeU u ∨ s = 1) || stepB s (whD u n - whichI u a)))
theorem sizeU_cases (u : Int) : 0 < sizeU u ∨ sizeU u = 0 := by unfold sizeU; split; omega; split; omega; split <;> omega
theorem sizeU_day {u : Int} (h : sizeU u = 0) (h0 : 0 ≤ u) : 3 ≤ u := by
  unfold sizeU at h
  split at h
  · omega
  · split at h
    · omega
    · split at h <;> omega
set_option maxHeartbeats 1600000 in
theorem UDays_any (u s a : Int) (w : World) (hs : -9223372036854775808 ≤ s ∧ s ≤ 9223372036854775807) :
    Calls Try.prog 102 #[.int .i64 u, .int .i64 s, .int .i64 a] w fun e w' => ∃ fv, e = .returned fv ∧ UDV w' w.heap.size u s a fv ∧ Below w.heap.size w w' := by
  have c1 := hid (fun W => UWhich_any u a W)
  have c2 := hid (fun W => Size_any u W)
  obtain ⟨W0, hW0⟩ : ∃ W0, (w.alloc (.cells #[.int .i64 u] 3)).alloc (.cells #[.int .i64 s] 2) = W0 := ⟨_, rfl⟩
  have q1 : W0.heap.size = w.heap.size + 2 := by rw [← hW0]; simp
  have q2 : Below w.heap.size w W0 := by rw [← hW0]; exact below_new (below_new (Below.refl _ _) (Nat.le_refl _)) (by simp)
  have q3 : W0.cell? ⟨w.heap.size, 0, none⟩ = some (.int .i64 u) := by rw [← hW0]; simp [go_sem]
  have q4 : W0.cell? ⟨w.heap.size + 1, 0, none⟩ = some (.int .i64 s) := by rw [← hW0]; simp [go_sem]
  have HW0 := hid hW0
  have Q := hid (And.intro q1 (And.intro q2 (And.intro q3 q4)))
  clear hW0 q1 q2 q3 q4
  cases hb : whichB u a
  · rw [hb] at c1
    have hv : Hid (whichB u a = false ∨ s < 1) := .inl hb
    clear hb
    go_enter Try.func102, Try.ntmps102
    go_wp2_with fail
    rw [HW0.out]
    refine (c1.out _).mono ?_
    rintro e w1 ⟨rfl, hB1⟩
    have HB1 : Hid (Below w.heap.size w w1) := Q.out.2.1.trans (hB1.mono (by have := Q.out.1; omega))
    clear hB1
    go_wp2
    go_ret
    exact ⟨_, rfl, .inl ⟨hv.out, rfl⟩, below_new HB1.out HB1.out.size⟩
  · rw [hb] at c1
    have Hb := hid hb
    clear hb
    by_cases h1 : s < 1
    · have hv : Hid (whichB u a = false ∨ s < 1) := .inr h1
      obtain ⟨x, hx⟩ : ∃ x, whichI u a = x := ⟨_, rfl⟩
      rw [hx] at c1
      clear hx
      go_enter Try.func102, Try.ntmps102
      go_wp2_with fail
      rw [HW0.out]
      refine (c1.out _).mono ?_
      rintro e w1 ⟨rfl, hB1⟩
      have HB1 : Hid (Below w.heap.size w w1) := Q.out.2.1.trans (hB1.mono (by have := Q.out.1; omega))
      have e4 := (hB1.cell (p := ⟨w.heap.size + 1, 0, none⟩) (by have := Q.out.1; simp only []; omega)).trans Q.out.2.2.2
      have e3 := (hB1.cell (p := ⟨w.heap.size, 0, none⟩) (by have := Q.out.1; simp only []; omega)).trans Q.out.2.2.1
      have al4 : (w1.alloc (.cells #[.int .i64 x] 2)).cell? ⟨w.heap.size + 1, 0, none⟩ = some (.int .i64 s) := ((below_new (Below.refl _ w1) (Nat.le_refl _)).cell (p := ⟨w.heap.size + 1, 0, none⟩) (by have := hB1.size; have := Q.out.1; simp only []; omega)).trans e4
      have al3 : (w1.alloc (.cells #[.int .i64 x] 2)).cell? ⟨w.heap.size, 0, none⟩ = some (.int .i64 u) := ((below_new (Below.refl _ w1) (Nat.le_refl _)).cell (p := ⟨w.heap.size, 0, none⟩) (by have := hB1.size; have := Q.out.1; simp only []; omega)).trans e3
      clear hB1
      go_wp2
      go_ret
      exact ⟨_, rfl, .inl ⟨hv.out, rfl⟩, below_new HB1.out HB1.out.size⟩
    · have h1s : Hid (1 ≤ s) := by show 1 ≤ s; omega
      have hz := sizeU_cases u
      obtain ⟨z, hzz⟩ : ∃ z, sizeU u = z := ⟨_, rfl⟩
      have Hz := hid hzz
      rw [hzz] at c2 hz
      clear hzz
      obtain ⟨x, hx⟩ : ∃ x, whichI u a = x := ⟨_, rfl⟩
      have Hx := hid hx
      rw [hx] at c1
      clear hx
      go_enter Try.func102, Try.ntmps102
      go_wp2_with fail
      rw [HW0.out]
      refine (c1.out _).mono ?_
      rintro e w1 ⟨rfl, hB1⟩
      have HB1 : Hid (Below w.heap.size w w1) := Q.out.2.1.trans (hB1.mono (by have := Q.out.1; omega))
      have e3 := (hB1.cell (p := ⟨w.heap.size, 0, none⟩) (by have := Q.out.1; simp only []; omega)).trans Q.out.2.2.1
      have e4 := (hB1.cell (p := ⟨w.heap.size + 1, 0, none⟩) (by have := Q.out.1; simp only []; omega)).trans Q.out.2.2.2
      have hs1 : w.heap.size + 2 ≤ w1.heap.size := by have := hB1.size; have := Q.out.1; omega
      have al4 : (w1.alloc (.cells #[.int .i64 x] 2)).cell? ⟨w.heap.size + 1, 0, none⟩ = some (.int .i64 s) := ((below_new (Below.refl _ w1) (Nat.le_refl _)).cell (p := ⟨w.heap.size + 1, 0, none⟩) (by have := hB1.size; have := Q.out.1; simp only []; omega)).trans e4
      have al3 : (w1.alloc (.cells #[.int .i64 x] 2)).cell? ⟨w.heap.size, 0, none⟩ = some (.int .i64 u) := ((below_new (Below.refl _ w1) (Nat.le_refl _)).cell (p := ⟨w.heap.size, 0, none⟩) (by have := hB1.size; have := Q.out.1; simp only []; omega)).trans e3
      clear hB1
      go_wp2_with fail
      refine (c2.out _).mono ?_
      rintro e w2 ⟨rfl, hB2⟩
      have f3 := (hB2.cell (p := ⟨w.heap.size, 0, none⟩) (by simp; omega)).trans al3
      have f4 := (hB2.cell (p := ⟨w.heap.size + 1, 0, none⟩) (by simp; omega)).trans al4
      have f7 := (hB2.cell (p := ⟨w1.heap.size, 0, none⟩) (by simp)).trans (show (w1.alloc (.cells #[.int .i64 x] 2)).cell? ⟨w1.heap.size, 0, none⟩ = some (.int .i64 x) by simp [go_sem])
      have HB2 : Hid (Below w.heap.size w w2) := (below_new HB1.out HB1.out.size).trans (hB2.mono (by simp; omega))
      have hs2 : w1.heap.size + 1 ≤ w2.heap.size := by have := hB2.size; simpa using this
      have F := hid (And.intro f3 (And.intro f4 f7))
      clear hB2 e3 e4 f3 f7 al3 al4
      rcases hz with hz | hz
      · go_wp2
        go_ret
        exact ⟨_, rfl, .inr (.inl ⟨Hb.out, h1s.out, .inl (by rw [Hz.out]; exact hz), rfl⟩), HB2.out⟩
      · by_cases hs1' : s = 1
        · have h11 := hid hs1'
          subst hs1'
          have hzz : ¬ 0 < z := by omega
          go_wp2
          go_ret
          exact ⟨_, rfl, .inr (.inl ⟨Hb.out, h1s.out, .inr rfl, rfl⟩), HB2.out⟩
        · have hb1 : (s == 1) = false := by simpa using hs1'
          have hzz : ¬ 0 < z := by omega
          have hz0 := hid hz
          clear hs1' hz
          go_wp2
          go_ret
          exact ⟨_, rfl, .inr (.inr ⟨Hb.out, h1s.out, by rw [Hz.out, hz0.out], _, _, _, rfl, ⟨F.out.1, by rw [Hx.out]; exact F.out.2.2, F.out.2.1, by omega, by omega, by omega⟩, Nat.le_refl _, by omega, by omega⟩), HB2.out⟩
end Go.Proofs.Ytndfckpcbiecnaa

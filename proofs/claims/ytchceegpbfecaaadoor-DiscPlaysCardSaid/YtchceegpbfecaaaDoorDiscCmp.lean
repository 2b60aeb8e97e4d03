/-
  ferialaw15.DiscCompares answers true for every two lists.
-/
import Derived.Test.YtchceegpbfecaaaDoorDiscNextFn
import Derived.Test.YtchceegpbfecaaaDoorDiscRef2
import Derived.Test.YtchceegpbfecaaaDoorMaskIter
namespace Go.Proofs.YtchceegpbfecaaaDoor
open Go.RowKit
set_option linter.unusedVariables false

theorem first90 : FirstOf (fun k => memD [5, 90] k && decide (6 ≤ k)) 90 true := .inl ⟨rfl, 90, rfl, by omega, by decide, fun j hj => by
  by_cases h : 6 ≤ j
  · simp [memD]; omega
  · simp [h]⟩
theorem lack90 : FirstOf (fun k => memD [5, 90] k && !memD [5] k) 90 true := .inl ⟨rfl, 90, rfl, by omega, by decide, fun j hj => by
  simp [memD]; omega⟩
theorem sl_lit1 (w : World) (x : Int) : Sl (w.alloc (.cells #[.int .i64 x] 3)) (some ⟨w.heap.size, 0, none⟩) (ints [x]) := .inr ⟨w.heap.size, 0, rfl, by simp, fun j hj => by
  have : j = 0 := by simp [ints] at hj; omega
  subst this; simp [ints, go_sem]⟩
theorem sl_lit2 (w : World) (x y : Int) : Sl (w.alloc (.cells #[.int .i64 x, .int .i64 y] 3)) (some ⟨w.heap.size, 0, none⟩) (ints [x, y]) := .inr ⟨w.heap.size, 0, rfl, by simp, fun j hj => by
  have : j = 0 ∨ j = 1 := by simp [ints] at hj; omega
  rcases this with rfl | rfl <;> simp [ints, go_sem]⟩

theorem DNext_det (b : Nat) (q : Nat → Bool) (s : Nat) (n : Int) (ok : Bool) (w : World) (hs : s < 86400) (hT : Tab w) (hd : DiscAt w b q) (hF : FirstOf (fun k => q k && decide (s ≤ k)) n ok) :
    Calls Tryd.prog 16 #[.pointer (some ⟨b, 0, none⟩), .int .i64 s] w fun r w' => r = .returned (.tuple #[.int .i64 n, .bool ok]) ∧ w = w' :=
  (DcNext_any b q s w hs hT hd).mono fun r w' ⟨⟨n', ok', h1, h2⟩, h3⟩ => by
    obtain ⟨rfl, rfl⟩ := hF.unique h2
    exact ⟨h1, h3⟩
theorem DLacks_det (d e : Option Nat) (p q : Nat → Bool) (n : Int) (ok : Bool) (w : World) (hT : Tab w) (hd : DiscV w d p) (he : DiscV w e q) (hF : FirstOf (fun k => p k && !q k) n ok) :
    Calls Tryd.prog 17 #[dv d, dv e] w fun r w' => r = .returned (.tuple #[.int .i64 n, .bool ok]) ∧ w = w' :=
  (DLacks_any d e p q w hT hd he).mono fun r w' ⟨⟨n', ok', h1, h2⟩, h3⟩ => by
    obtain ⟨rfl, rfl⟩ := hF.unique h2
    exact ⟨h1, h3⟩
set_option maxHeartbeats 1600000 in
theorem lives15_any (w : World) (hT : Tab w) : Calls Tryd.prog 4 #[] w fun e w' => e = .returned (.bool true) ∧ Below w.heap.size w w' := by
  have hB0 : Below w.heap.size w (w.alloc (.cells #[.int .i64 5, .int .i64 90] 3)) := below_new (Below.refl _ _) (Nat.le_refl _)
  have c1 := hid (DOf_any (some ⟨w.heap.size, 0, none⟩) 2 [5, 90] (w.alloc (.cells #[.int .i64 5, .int .i64 90] 3)) (by decide) (sl_lit2 w 5 90))
  have HB0 := hid hB0
  have HT := hid hT
  clear hB0 hT
  go_enter Tryd.func4, Tryd.ntmps4
  go_wp2_with fail
  refine c1.out.mono ?_
  rintro e w1 ⟨rfl, hd1, hb1⟩
  have hB1 : Below w.heap.size w w1 := HB0.out.trans (hb1.mono (by simp))
  have hT1 := HT.out.later hB1
  have hlt1 := hd1
  obtain ⟨_, _, _, _, _, hlt1⟩ := hlt1
  rw [World.size_alloc] at hd1 hlt1
  have c2 := hid (DNext_det (w.heap.size + 1) (memD [5, 90]) 6 90 true w1 (by omega) hT1 hd1 first90)
  have c3 := hid (DOf_any (some ⟨w1.heap.size, 0, none⟩) 1 [5] (w1.alloc (.cells #[.int .i64 5] 3)) (by decide) (sl_lit1 w1 5))
  have HB1 := hid hB1
  have HT1 := hid hT1
  have Hd1 := hid hd1
  clear hB1 hT1 hd1 hb1 c1
  go_wp2_with fail
  refine c2.out.mono ?_
  rintro e w' ⟨rfl, rfl⟩
  go_wp2_with fail
  refine c3.out.mono ?_
  rintro e w2 ⟨rfl, hd2, hb2⟩
  have hb2' : Below w1.heap.size w1 w2 := (below_new (Below.refl _ _) (Nat.le_refl _)).trans (hb2.mono (by simp))
  rw [World.size_alloc] at hd2
  have c4 := hid (DLacks_det (some (w.heap.size + 1)) (some (w1.heap.size + 1)) _ _ 90 true w2 (HT1.out.later hb2') (Hd1.out.below hb2' hlt1) hd2 lack90)
  have HB2 := hid (HB1.out.trans (hb2'.mono (by omega)))
  clear hb2 hb2' hd2 c2 c3
  go_wp2_with fail
  refine c4.out.mono ?_
  rintro e w' ⟨rfl, rfl⟩
  go_wp2
  go_ret
  exact ⟨rfl, HB2.out⟩

/-! ### the law -/
theorem lackI_none : ∀ (l m : List Int), (∀ x ∈ l, x ∈ m) → lackI l m = -1
  | [], m, _ => rfl
  | x :: l, m, h => by rw [lackI, if_pos (h x (by simp)), lackI_none l m (fun y hy => h y (by simp [hy]))]
theorem lackI_some : ∀ (l m : List Int), l.Pairwise (· < ·) → (∃ x ∈ l, ¬ x ∈ m) → lackI l m ∈ l ∧ ¬ lackI l m ∈ m ∧ ∀ y ∈ l, y < lackI l m → y ∈ m
  | [], m, _, ⟨x, h, _⟩ => by cases h
  | x :: l, m, hp, ⟨z, hz, hn⟩ => by
    rw [List.pairwise_cons] at hp
    rw [lackI]
    split
    · rename_i hx
      have hzl : z ∈ l := by
        rcases List.mem_cons.1 hz with rfl | h
        · exact absurd hx hn
        · exact h
      obtain ⟨h1, h2, h3⟩ := lackI_some l m hp.2 ⟨z, hzl, hn⟩
      refine ⟨by simp [h1], h2, fun y hy hlt => ?_⟩
      rcases List.mem_cons.1 hy with rfl | h
      · exact hx
      · exact h3 y h hlt
    · rename_i hx
      refine ⟨by simp, hx, fun y hy hlt => ?_⟩
      rcases List.mem_cons.1 hy with rfl | h
      · omega
      · have := hp.1 y h; omega
theorem secL_mem {q : Nat → Bool} {x : Int} : x ∈ secL q ↔ ∃ k : Nat, k < 86400 ∧ q k = true ∧ x = k := by
  rw [secL, sel_mem]
theorem secL_nat {q : Nat → Bool} {k : Nat} (hk : k < 86400) : ((k : Int) ∈ secL q) = (q k = true) := by
  rw [eq_iff_iff, secL_mem]
  constructor
  · rintro ⟨j, _, h, e⟩
    have : k = j := by omega
    rw [this]; exact h
  · exact fun h => ⟨k, hk, h, rfl⟩
/-- the first of one set that another hasn't, as the document has it -/
theorem lackI_first (p q : Nat → Bool) : ∃ n ok, FirstOf (fun k => p k && !q k) n ok ∧ ((ok = true ∧ lackI (secL p) (secL q) = n ∧ 0 ≤ n) ∨ (ok = false ∧ n = 0 ∧ lackI (secL p) (secL q) = -1)) := by
  by_cases h : ∃ x ∈ secL p, ¬ x ∈ secL q
  · obtain ⟨h1, h2, h3⟩ := lackI_some _ _ (sel_rising p 86400) h
    obtain ⟨k, hk, hpk, e⟩ := secL_mem.mp h1
    rw [e] at h2 h3
    refine ⟨k, true, .inl ⟨rfl, k, rfl, hk, ?_, fun j hj => ?_⟩, .inl ⟨rfl, e, by omega⟩⟩
    · rw [secL_nat hk] at h2
      simp only [hpk, Bool.true_and, Bool.not_eq_true'] 
      simpa using h2
    · simp only []
      cases hp : p j
      · rfl
      · have := h3 j (secL_mem.mpr ⟨j, by omega, hp, rfl⟩) (by omega)
        rw [secL_nat (by omega)] at this
        rw [this]; rfl
  · have h' : ∀ x ∈ secL p, x ∈ secL q := fun x hx => Decidable.byContradiction fun hn => h ⟨x, hx, hn⟩
    refine ⟨0, false, .inr ⟨rfl, rfl, fun j hj => ?_⟩, .inr ⟨rfl, rfl, lackI_none _ _ h'⟩⟩
    simp only []
    cases hp : p j
    · rfl
    · have := h' j (secL_mem.mpr ⟨j, hj, hp, rfl⟩)
      rw [secL_nat hj] at this
      rw [this]; rfl
theorem first_head (p : Nat → Bool) : (secL p = [] ∧ FirstOf (fun k => p k && !(fun _ => false) k) 0 false) ∨ ∃ x r, secL p = x :: r ∧ FirstOf (fun k => p k && !(fun _ => false) k) x true := by
  cases h : secL p with
  | nil =>
    refine .inl ⟨rfl, .inr ⟨rfl, rfl, fun j hj => ?_⟩⟩
    simp only [Bool.not_false, Bool.and_true]
    cases hp : p j
    · rfl
    · have := secL_mem.mpr ⟨j, hj, hp, rfl⟩
      rw [h] at this; cases this
  | cons x r =>
    have hr := sel_rising p 86400
    rw [show sel p 86400 = x :: r from h, List.pairwise_cons] at hr
    obtain ⟨k, hk, hp, rfl⟩ := secL_mem.mp (show x ∈ secL p by rw [h]; simp)
    refine .inr ⟨_, _, rfl, .inl ⟨rfl, k, rfl, hk, by simp [hp], fun j hj => ?_⟩⟩
    simp only [Bool.not_false, Bool.and_true]
    cases hpj : p j
    · rfl
    · have hm := secL_mem.mpr ⟨j, by omega, hpj, rfl⟩
      rw [h] at hm
      rcases List.mem_cons.1 hm with e | e
      · omega
      · have := hr.1 _ e; omega
/-- the five ways in which two sets may differ -/
theorem differ_cases (p q : Nat → Bool) : ∃ (P Q n1 n2 n3 : Int) (ok1 ok2 ok3 : Bool), lackI (secL p) (secL q) = P ∧ lackI (secL q) (secL p) = Q ∧ FirstOf (fun k => p k && !q k) n1 ok1 ∧ FirstOf (fun k => p k != q k) n3 ok3 ∧
    ((P = -1 ∧ Q = -1 ∧ n1 = 0 ∧ ok1 = false ∧ n3 = 0 ∧ ok3 = false) ∨ (P = -1 ∧ 0 ≤ Q ∧ n1 = 0 ∧ ok1 = false ∧ n3 = Q ∧ ok3 = true) ∨ (0 ≤ P ∧ Q = -1 ∧ n1 = P ∧ ok1 = true ∧ n3 = P ∧ ok3 = true) ∨
      (0 ≤ P ∧ 0 ≤ Q ∧ Q < P ∧ n1 = P ∧ ok1 = true ∧ n3 = Q ∧ ok3 = true) ∨ (0 ≤ P ∧ 0 ≤ Q ∧ P < Q ∧ n1 = P ∧ ok1 = true ∧ n3 = P ∧ ok3 = true)) := by
  obtain ⟨n1, ok1, F1, h1⟩ := lackI_first p q
  obtain ⟨n2, ok2, F2, h2⟩ := lackI_first q p
  have bne : ∀ k, (p k != q k) = ((p k && !q k) || (q k && !p k)) := fun k => by cases p k <;> cases q k <;> rfl
  rcases h1 with ⟨rfl, e1, g1⟩ | ⟨rfl, rfl, e1⟩ <;> rcases h2 with ⟨rfl, e2, g2⟩ | ⟨rfl, rfl, e2⟩
  · rcases F1 with ⟨_, k, rfl, hk, a1, a2⟩ | ⟨h, _⟩
    · rcases F2 with ⟨_, j, rfl, hj, b1, b2⟩ | ⟨h, _⟩
      · rcases Nat.lt_trichotomy j k with h | h | h
        · refine ⟨k, j, k, j, j, true, true, true, e1, e2, .inl ⟨rfl, k, rfl, hk, a1, a2⟩, .inl ⟨rfl, j, rfl, hj, by simp only [bne, b1, Bool.or_true], fun i hi => by simp only [bne, b2 i hi, a2 i (by omega), Bool.or_false]⟩, .inr (.inr (.inr (.inl ⟨by omega, by omega, by omega, rfl, rfl, rfl, rfl⟩)))⟩
        · subst h
          simp only [Bool.and_eq_true] at a1 b1
          rw [a1.1] at b1
          exact absurd b1.2 (by simp)
        · refine ⟨k, j, k, j, k, true, true, true, e1, e2, .inl ⟨rfl, k, rfl, hk, a1, a2⟩, .inl ⟨rfl, k, rfl, hk, by simp only [bne, a1, Bool.true_or], fun i hi => by simp only [bne, a2 i hi, b2 i (by omega), Bool.or_false]⟩, .inr (.inr (.inr (.inr ⟨by omega, by omega, by omega, rfl, rfl, rfl, rfl⟩)))⟩
      · cases h
    · cases h
  · rcases F2 with ⟨h, _⟩ | ⟨_, _, b2⟩
    · cases h
    rcases F1 with ⟨_, k, rfl, hk, a1, a2⟩ | ⟨h, _⟩
    · refine ⟨k, -1, k, 0, k, true, false, true, e1, e2, .inl ⟨rfl, k, rfl, hk, a1, a2⟩, .inl ⟨rfl, k, rfl, hk, by simp only [bne, a1, Bool.true_or], fun i hi => by simp only [bne, a2 i hi, b2 i (by omega), Bool.or_false]⟩, .inr (.inr (.inl ⟨by omega, rfl, rfl, rfl, rfl, rfl⟩))⟩
    · cases h
  · rcases F1 with ⟨h, _⟩ | ⟨_, _, a2⟩
    · cases h
    rcases F2 with ⟨_, j, rfl, hj, b1, b2⟩ | ⟨h, _⟩
    · refine ⟨-1, j, 0, j, j, false, true, true, e1, e2, .inr ⟨rfl, rfl, a2⟩, .inl ⟨rfl, j, rfl, hj, by simp only [bne, b1, Bool.or_true], fun i hi => by simp only [bne, b2 i hi, a2 i (by omega), Bool.or_false]⟩, .inr (.inl ⟨rfl, by omega, rfl, rfl, rfl, rfl⟩)⟩
    · cases h
  · rcases F1 with ⟨h, _⟩ | ⟨_, _, a2⟩
    · cases h
    rcases F2 with ⟨h, _⟩ | ⟨_, _, b2⟩
    · cases h
    exact ⟨-1, -1, 0, 0, 0, false, false, false, e1, e2, .inr ⟨rfl, rfl, a2⟩, .inr ⟨rfl, rfl, fun i hi => by simp only [bne, b2 i hi, a2 i hi, Bool.or_false]⟩, .inl ⟨rfl, rfl, rfl, rfl, rfl, rfl⟩⟩
theorem secL_len (q : Nat → Bool) : (secL q).length ≤ 86400 := sel_len q 86400
theorem first_nil : FirstOf (fun k => (fun _ => false) k != memD [] k) 0 false := .inr ⟨rfl, rfl, fun j hj => by simp [memD]⟩
end Go.Proofs.YtchceegpbfecaaaDoor

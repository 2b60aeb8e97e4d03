/-
  ferialaw04.WideOf answers true for every list, set and number.
-/
import Derived.Test.YtdggflkkojmabaaDoorWideLives
import Derived.Test.YtdggflkkojmabaaDoorWideRef
namespace Go.Proofs.YtdggflkkojmabaaDoor
open Go.RowKit
set_option linter.unusedVariables false

theorem wof_wsel (s : Nat → Nat) (i : Nat) (hi : i < 7) (hs : s i < 18446744073709551616) : wof (wsel s) i = inW s i := by
  refine (eq_mk (inW_lt i hs) (fun k hk => ?_)).symm
  rw [inW, Nat.testBit_and, fullW_test, inWB, Bool.eq_iff_iff]
  simp only [Bool.and_eq_true, decide_eq_true_eq, wsel, sel_mem]
  constructor
  · rintro ⟨h1, _, h2⟩
    exact ⟨⟨64 * i + k, h2, by rw [bitW, show (64 * i + k) / 64 = i by omega, show (64 * i + k) % 64 = k by omega]; exact h1, rfl⟩, h2⟩
  · rintro ⟨⟨j, h1, h2, h3⟩, h4⟩
    have : j = 64 * i + k := by omega
    subst this
    rw [bitW, show (64 * i + k) / 64 = i by omega, show (64 * i + k) % 64 = k by omega] at h2
    exact ⟨h2, hk, h4⟩
theorem eqW_congr {s s' t : Nat → Nat} (h : ∀ i, i < 7 → s i = s' i) : eqW s t = eqW s' t := by
  rw [Bool.eq_iff_iff, eqW_iff, eqW_iff]
  exact ⟨fun g i hi => by rw [← h i hi]; exact g i hi, fun g i hi => by rw [h i hi]; exact g i hi⟩
theorem eqW_refl (s : Nat → Nat) : eqW s s = true := (eqW_iff s s).mpr fun _ _ => rfl
theorem sel_full {p : Nat → Bool} : ∀ n, (∀ i, i < n → p i = true) → (sel p n).length = n
  | 0, _ => rfl
  | n + 1, h => by rw [sel_yes (h n (by omega)), List.length_append, sel_full n (fun i hi => h i (by omega))]; rfl
theorem lenOf_full : lenOf fullW = 400 := by
  rw [lenOf_eq, wsel]
  exact sel_full 400 (fun i hi => by rw [bitW, fullW_test]; simp; omega)

/-- what the statement's region reads -/
abbrev WoS (w : World) (s : Nat → Nat) (a a2 : Option Addr) (l xs : List Int) (W : World) : Prop :=
  W.cell? ⟨w.heap.size, 0, none⟩ = some (.int .u64 (s 0 : Nat)) ∧ W.cell? ⟨w.heap.size, 1, none⟩ = some (.int .u64 (s 1 : Nat)) ∧ W.cell? ⟨w.heap.size, 2, none⟩ = some (.int .u64 (s 2 : Nat)) ∧ W.cell? ⟨w.heap.size, 3, none⟩ = some (.int .u64 (s 3 : Nat)) ∧
  W.cell? ⟨w.heap.size, 4, none⟩ = some (.int .u64 (s 4 : Nat)) ∧ W.cell? ⟨w.heap.size, 5, none⟩ = some (.int .u64 (s 5 : Nat)) ∧ W.cell? ⟨w.heap.size, 6, none⟩ = some (.int .u64 (s 6 : Nat)) ∧ Hid (Sl W a (ints l) ∧ Sl W a2 (ints xs) ∧ Below w.heap.size w W ∧ w.heap.size < W.heap.size)
theorem WoS.keep {w W W' : World} {s : Nat → Nat} {a a2 : Option Addr} {l xs : List Int} (h : WoS w s a a2 l xs W) (hb : Below W.heap.size W W') : WoS w s a a2 l xs W' := by
  obtain ⟨h0, h1, h2, h3, h4, h5, h6, h7⟩ := h
  obtain ⟨g1, g2, g3, h8⟩ := h7.out
  exact ⟨(hb.cell (p := ⟨w.heap.size, 0, none⟩) h8).trans h0, (hb.cell (p := ⟨w.heap.size, 1, none⟩) h8).trans h1, (hb.cell (p := ⟨w.heap.size, 2, none⟩) h8).trans h2, (hb.cell (p := ⟨w.heap.size, 3, none⟩) h8).trans h3,
    (hb.cell (p := ⟨w.heap.size, 4, none⟩) h8).trans h4, (hb.cell (p := ⟨w.heap.size, 5, none⟩) h8).trans h5, (hb.cell (p := ⟨w.heap.size, 6, none⟩) h8).trans h6, g1.below hb, g2.below hb, g3.trans (hb.mono (by omega)), Nat.lt_of_lt_of_le h8 hb.size⟩

set_option maxRecDepth 100000 in
set_option maxHeartbeats 8000000 in
theorem WideOf_walk (a : Option Addr) (cap : Nat) (l : List Int) (s : Nat → Nat) (n : Int) (w : World) (hl : l.length ≤ 9223372036854775807) (_ : l.length ≤ cap) (hsl : Sl w a (ints l)) (_ : ∀ x ∈ l, -9223372036854775808 ≤ x ∧ x ≤ 9223372036854775807)
    (hs : ∀ i, i < 7 → s i < 18446744073709551616) (_ : -9223372036854775808 ≤ n ∧ n ≤ 9223372036854775807) (hT : Tab w) :
    Calls Tryd.prog 12 #[.slice a l.length cap, wv s, .int .i64 n] w fun e w' => e = .returned (.bool true) ∧ Below w.heap.size w w' := by
  have HT := hid hT
  have cL := hid (fun W (h : Below w.heap.size w W) => lives04_any W (HT.out.later h))
  have hB0 : Hid (Below w.heap.size w (w.alloc (.cells #[.int .u64 (s 0 : Nat), .int .u64 (s 1 : Nat), .int .u64 (s 2 : Nat), .int .u64 (s 3 : Nat), .int .u64 (s 4 : Nat), .int .u64 (s 5 : Nat), .int .u64 (s 6 : Nat)] 70))) := below_new (Below.refl _ _) (Nat.le_refl _)
  clear hT
  by_cases h500 : 500 < l.length
  · have h5 : (500 : Int) < (l.length : Int) := by omega
    clear h500
    go_enter Tryd.func12, Tryd.ntmps12
    go_wp2_with fail
    refine (cL.out _ hB0.out).mono ?_
    rintro e w1 ⟨rfl, hb1⟩
    go_wp2
    go_ret
    exact ⟨rfl, hB0.out.trans (hb1.mono (by simp))⟩
  · have h5 : ¬ (500 : Int) < (l.length : Int) := by omega
    have c0 := hid (fun W => own_ret (WList_any s W hs))
    have d1 := hid (fun W (h : Sl W a (ints l)) => WOf_any a cap l W hl h)
    have d2 := hid (fun W (h : Sl W a (ints l)) => ROfW_any a cap l W hl h)
    have d3 := hid (fun W => WMay_any s W hs)
    have d4 := hid (fun W => WHas_any s n W hs)
    have d5 := hid (fun W => RHasW_any s n W hs)
    have d6 := hid (fun W => WLen_any s W hs)
    have d7 := hid (fun W => WFull_any W)
    have d8 := hid (fun W => WLen_any fullW W (fun i _ => fullW_lt i))
    have d2' := hid (fun a2 cap2 W (h : Sl W a2 (ints (wsel s))) => ROfW_any a2 cap2 (wsel s) W (Nat.le_trans (sel_len _ _) (by omega)) h)
    have e1 := fun W => run_eql_wv (wof l) (wof l) W
    have e2 := fun W => run_eql_wv (wof (wsel s)) s W
    have hE : eqW (wof (wsel s)) s = eqW (inW s) s := eqW_congr fun i hi => wof_wsel s i hi (hs i hi)
    rw [hE] at e2
    simp only [eqW_refl] at e1
    rw [lenOf_full] at d8
    rw [lenOf_eq] at d6
    have hlen : (wsel s).length ≤ 400 := sel_len _ _
    obtain ⟨xs, hxs⟩ : ∃ xs, wsel s = xs := ⟨_, rfl⟩
    rw [hxs] at c0 d2' e2 d6 hlen
    obtain ⟨f, hf⟩ : ∃ f, wof l = f := ⟨_, rfl⟩
    rw [hf] at d1 d2 e1
    obtain ⟨g, hg⟩ : ∃ f, wof xs = f := ⟨_, rfl⟩
    rw [hg] at d2' e2
    obtain ⟨fu, hfu⟩ : ∃ f, fullW = f := ⟨_, rfl⟩
    rw [hfu] at d7 d8
    obtain ⟨be, hbe⟩ : ∃ b, eqW (inW s) s = b := ⟨_, rfl⟩
    rw [hbe] at d3 e2
    obtain ⟨bh, hbh⟩ : ∃ b, hasW s n = b := ⟨_, rfl⟩
    rw [hbh] at d4 d5
    clear hE hxs hf hg hfu hbe hbh hs h500
    obtain ⟨W0, hW0⟩ : ∃ W0, w.alloc (.cells #[.int .u64 (s 0 : Nat), .int .u64 (s 1 : Nat), .int .u64 (s 2 : Nat), .int .u64 (s 3 : Nat), .int .u64 (s 4 : Nat), .int .u64 (s 5 : Nat), .int .u64 (s 6 : Nat)] 70) = W0 := ⟨_, rfl⟩
    have q1 : W0.heap.size = w.heap.size + 1 := by rw [← hW0]; simp
    have q3 : WCells W0 w.heap.size s := by rw [← hW0]; exact wcells_new w s _
    have HW0 := hid hW0
    have Q3 := hid q3
    obtain ⟨r0, r1, r2, r3, r4, r5, r6⟩ := q3.all
    rw [hW0] at hB0
    have Hsl := hid hsl
    clear hW0 q3 hsl
    go_enter Tryd.func12, Tryd.ntmps12
    go_wp2_with fail
    rw [HW0.out]
    refine (c0.out W0).mono ?_
    rintro e w1 ⟨a2, n2, cap2, rfl, hn2, hs2, _, hB1⟩
    obtain rfl := hn2.out
    have HS1 : Hid (WoS w s a a2 l xs w1.drew) := by
      obtain ⟨r0, r1, r2, r3, r4, r5, r6⟩ := (Q3.out.below hB1 (by omega)).all
      exact ⟨r0, r1, r2, r3, r4, r5, r6, (Hsl.out.below hB0.out).below hB1.drew, hs2, (hB0.out.trans (hB1.mono (by omega))).drew, by have := hB1.size; show w.heap.size < w1.heap.size; omega⟩
    have k1 := hid (fun W (h : WoS w s a a2 l xs W) => keep_of (d1.out W h.2.2.2.2.2.2.2.1) (fun _ => h.keep))
    have k2 := hid (fun W (h : WoS w s a a2 l xs W) => keep_of (d2.out W h.2.2.2.2.2.2.2.1) (fun _ => h.keep))
    have k2' := hid (fun W (h : WoS w s a a2 l xs W) => keep_of (d2'.out a2 cap2 W h.2.2.2.2.2.2.2.2.1) (fun _ => h.keep))
    have k3 := hid (fun W (h : WoS w s a a2 l xs W) => keep_of (d3.out W) (fun _ => h.keep))
    have k4 := hid (fun W (h : WoS w s a a2 l xs W) => keep_of (d4.out W) (fun _ => h.keep))
    have k5 := hid (fun W (h : WoS w s a a2 l xs W) => keep_of (d5.out W) (fun _ => h.keep))
    have k6 := hid (fun W (h : WoS w s a a2 l xs W) => keep_of (d6.out W) (fun _ => h.keep))
    have k7 := hid (fun W (h : WoS w s a a2 l xs W) => keep_of (d7.out W) (fun _ => h.keep))
    have k8 := hid (fun W (h : WoS w s a a2 l xs W) => keep_of (d8.out W) (fun _ => h.keep))
    have k9 := hid (fun W (h : WoS w s a a2 l xs W) => keep_of (cL.out W h.2.2.2.2.2.2.2.2.2.1) (fun _ => h.keep))
    clear hn2 hs2 hB1 d1 d2 d2' d3 d4 d5 d6 d7 d8 c0 r0 r1 r2 r3 r4 r5 r6
    go_wp2_with fail
    go_region_held3 (fun w' => WoS w s a a2 l xs w') (first | exact HS1.out | assumption)
      (first
        | (go_at_call 59; refine (k1.out _ (by assumption)).mono ?_; rintro e w' ⟨rfl, hS⟩)
        | (go_at_call 60; first | (with_reducible refine (k2.out _ (by assumption)).mono ?_; rintro e w' ⟨rfl, hS⟩) | (with_reducible refine (k2'.out _ (by assumption)).mono ?_; rintro e w' ⟨rfl, hS⟩))
        | (go_at_call 61; refine (k3.out _ (by assumption)).mono ?_; rintro e w' ⟨rfl, hS⟩)
        | (go_at_call 62; refine (k4.out _ (by assumption)).mono ?_; rintro e w' ⟨rfl, hS⟩)
        | (go_at_call 63; refine (k5.out _ (by assumption)).mono ?_; rintro e w' ⟨rfl, hS⟩)
        | (go_at_call 64; first | (with_reducible refine (k6.out _ (by assumption)).mono ?_; rintro e w' ⟨rfl, hS⟩) | (with_reducible refine (k8.out _ (by assumption)).mono ?_; rintro e w' ⟨rfl, hS⟩))
        | (go_at_call 65; refine (k7.out _ (by assumption)).mono ?_; rintro e w' ⟨rfl, hS⟩)
        | (go_at_call 58; refine (k9.out _ (by assumption)).mono ?_; rintro e w' ⟨rfl, hS⟩))
    go_wp2
    go_ret
    exact ⟨rfl, (‹WoS w s a a2 l xs _›).2.2.2.2.2.2.2.2.2.1⟩
end Go.Proofs.YtdggflkkojmabaaDoor

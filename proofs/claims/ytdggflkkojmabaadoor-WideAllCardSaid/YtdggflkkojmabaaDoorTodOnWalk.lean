/-
  ferialaw07.TodOn answers true for every masks.
-/
import Derived.Test.YtdggflkkojmabaaDoorTodNextWalk
namespace Go.Proofs.YtdggflkkojmabaaDoor
open Go.RowKit
set_option linter.unusedVariables false

theorem rising_ge {L : List Int} (hr : L.Pairwise (· < ·)) (h0 : ∀ y ∈ L, 0 ≤ y) : ∀ i (hi : i < L.length), (i : Int) ≤ L[i]
  | 0, hi => h0 _ (List.getElem_mem hi)
  | i + 1, hi => by
    have h1 := rising_ge hr h0 i (by omega)
    have h2 := List.pairwise_iff_getElem.mp hr i (i + 1) (by omega) hi (by omega)
    omega
theorem secsOf_count (hs ms ss : Nat) : (secsOf hs ms ss).length ≤ 86400 := by
  rcases Nat.eq_zero_or_pos (secsOf hs ms ss).length with h | h
  · omega
  · have h1 := rising_ge (secsOf_rising hs ms ss) (fun y hy => (secsOf_bd hs ms ss hy).1) ((secsOf hs ms ss).length - 1) (by omega)
    have h2 := secsOf_bd hs ms ss (List.getElem_mem (l := secsOf hs ms ss) (n := (secsOf hs ms ss).length - 1) (by omega))
    omega
theorem lastI_bd {L : List Int} (h0 : ∀ y ∈ L, 0 ≤ y ∧ y < 86400) (k : Nat) : -1 ≤ lastI L k ∧ lastI L k < 86400 := by
  unfold lastI
  split
  · omega
  · rw [List.getD_eq_getElem?_getD]
    rcases Nat.lt_or_ge (k - 1) L.length with h | h
    · rw [List.getElem?_eq_getElem h]
      have := h0 _ (List.getElem_mem h)
      simp only [Option.getD_some]; omega
    · rw [List.getElem?_eq_none h]; simp
theorem lastI_lt {L : List Int} (hr : L.Pairwise (· < ·)) (h0 : ∀ y ∈ L, 0 ≤ y) (k : Nat) (hk : k < L.length) : lastI L k < L[k] := by
  cases k with
  | zero => have := h0 _ (List.getElem_mem hk); rw [lastI_zero]; omega
  | succ j => rw [lastI_succ L j (by omega)]; exact List.pairwise_iff_getElem.mp hr j (j + 1) (by omega) hk (by omega)
theorem on_at {L : List Int} (hr : L.Pairwise (· < ·)) (h0 : ∀ y ∈ L, 0 ≤ y) (k : Nat) (hk : k < L.length) {r : Int × Bool} (hf : FirstFrom L (lastI L k + 1) r) : r = (L[k], true) := by
  have hl := lastI_lt hr h0 k hk
  rcases hf with ⟨h1, h2, h3, h4⟩ | ⟨_, _, h3⟩
  · have h5 := h4 _ (List.getElem_mem hk) (by omega)
    obtain ⟨i, hi, he⟩ := List.getElem_of_mem h2
    rcases Nat.lt_trichotomy i k with h | h | h
    · have h6 : L[i] ≤ lastI L k := by
        cases k with
        | zero => omega
        | succ j =>
          rw [lastI_succ L j (by omega)]
          rcases Nat.lt_or_ge i j with h7 | h7
          · have := List.pairwise_iff_getElem.mp hr i j (by omega) (by omega) h7; omega
          · obtain rfl : i = j := by omega
            omega
      omega
    · subst h; exact Prod.ext he.symm h1
    · have := List.pairwise_iff_getElem.mp hr k i (by omega) hi h; omega
  · have := h3 _ (List.getElem_mem hk); omega
theorem on_end {L : List Int} (hr : L.Pairwise (· < ·)) (h0 : ∀ y ∈ L, 0 ≤ y) {r : Int × Bool} (hf : FirstFrom L (lastI L L.length + 1) r) : r = (0, false) := by
  rcases hf with ⟨h1, h2, h3, h4⟩ | ⟨h1, h2, _⟩
  · obtain ⟨i, hi, he⟩ := List.getElem_of_mem h2
    obtain ⟨j, hj⟩ : ∃ j, L.length = j + 1 := ⟨L.length - 1, by omega⟩
    rw [hj, lastI_succ L j (by omega)] at h3
    rcases Nat.lt_or_ge i j with h7 | h7
    · have := List.pairwise_iff_getElem.mp hr i j (by omega) (by omega) h7; omega
    · obtain rfl : i = j := by omega
      omega
  · exact Prod.ext h2 h1
theorem secsOf_in (hs ms ss : Nat) {y : Int} (hy : y ∈ secsOf hs ms ss) : todIn y hs ms ss = true := by
  obtain ⟨h, m, s, h1, h2, h3, rfl⟩ := mem_secs.mp hy
  obtain ⟨kh, _, bh, rfl⟩ := sel_mem.mp h1
  obtain ⟨km, _, bm, rfl⟩ := sel_mem.mp h2
  obtain ⟨ks, _, bs, rfl⟩ := sel_mem.mp h3
  rw [cutM_test] at bh bm bs
  simp at bh bm bs
  have e1 : (3600 * (kh : Int) + 60 * km + ks) / 3600 = kh := by omega
  have e2 : (3600 * (kh : Int) + 60 * km + ks) / 60 % 60 = km := by omega
  have e3 : (3600 * (kh : Int) + 60 * km + ks) % 60 = ks := by omega
  rw [todIn, e1, e2, e3, hasB_nat, hasB_nat, hasB_nat, bh.1, bm.1, bs.1]
  simp [dayB]; omega

def atI (L : List Int) (k : Nat) : Int := lastI L k + 1
set_option maxRecDepth 100000 in
set_option maxHeartbeats 8000000 in
theorem TodOn_walk (y0 y1 y2 : Nat) (w : World)
    (hy0 : y0 < 18446744073709551616) (hy1 : y1 < 18446744073709551616) (hy2 : y2 < 18446744073709551616) (hT : Tab w) :
    Calls Tryd.prog 14 #[.agg #[.int .u64 y0, .int .u64 y1, .int .u64 y2]] w fun e w' => e = .returned (.bool true) ∧ Below w.heap.size w w' := by
  have HT := hid hT
  clear hT
  have hS0 : TbS w y0 y1 y2 (w.alloc (.cells #[.int .u64 y0, .int .u64 y1, .int .u64 y2] 52)) := ⟨by simp [go_sem], by simp [go_sem], by simp [go_sem], below_new (Below.refl _ _) (Nat.le_refl _), by simp [go_sem]⟩
  have hbd := hid (fun y (hy : y ∈ secsOf y0 y1 y2) => secsOf_bd y0 y1 y2 hy)
  have hr := secsOf_rising y0 y1 y2
  have c2 : Hid (∀ W, Tab W → ∀ k (hk : k < (secsOf y0 y1 y2).length), Calls Tryd.prog 66 #[.int .i64 (lastI (secsOf y0 y1 y2) k + 1), .int .u64 y0, .int .u64 y1, .int .u64 y2] W fun e w' => e = .returned (.tuple #[.int .i64 (secsOf y0 y1 y2)[k], .bool true]) ∧ W = w') := fun W h k hk => by
    have := TNext_any (lastI (secsOf y0 y1 y2) k + 1) y0 y1 y2 W hy0 hy1 hy2 h
    rw [on_at hr (fun y hy => (hbd.out y hy).1) k hk (secsOf_first _ y0 y1 y2 hy0 hy1 hy2)] at this
    exact this
  have c5 : Hid (∀ W, Tab W → Calls Tryd.prog 66 #[.int .i64 (lastI (secsOf y0 y1 y2) (secsOf y0 y1 y2).length + 1), .int .u64 y0, .int .u64 y1, .int .u64 y2] W fun e w' => e = .returned (.tuple #[.int .i64 0, .bool false]) ∧ W = w') := fun W h => by
    have := TNext_any (lastI (secsOf y0 y1 y2) (secsOf y0 y1 y2).length + 1) y0 y1 y2 W hy0 hy1 hy2 h
    rw [on_end hr (fun y hy => (hbd.out y hy).1) (secsOf_first _ y0 y1 y2 hy0 hy1 hy2)] at this
    exact this
  have c6 : Hid (∀ W y, y ∈ secsOf y0 y1 y2 → Calls Tryd.prog 42 #[.int .i64 y, .int .u64 y0, .int .u64 y1, .int .u64 y2] W fun e w' => e = .returned (.bool true) ∧ W = w') := fun W y hy => by
    have := In_any y y0 y1 y2 W hy0 hy1 hy2
    rw [secsOf_in y0 y1 y2 hy] at this
    exact this
  have c3 := hid (fun W (h : Tab W) => TLast_any y0 y1 y2 W hy0 hy1 hy2 h)
  have c4 := hid (fun W => TLen_any y0 y1 y2 W hy0 hy1 hy2)
  have l2 := secsOf_last' y0 y1 y2 hy0 hy1 hy2
  have l3 := hid (secsOf_len y0 y1 y2)
  have l4 := hid (fun k hk => lastI_lt hr (fun y hy => (hbd.out y hy).1) k hk)
  have hle := secsOf_count y0 y1 y2
  have lb := hid (fun k => lastI_bd (fun y hy => hbd.out y hy) k)
  rw [l3.out] at c4
  obtain ⟨L, hL⟩ : ∃ L, secsOf y0 y1 y2 = L := ⟨_, rfl⟩
  rw [hL] at c4 c6 l2 hbd hle lb
  simp only [hL] at c2 c5 l4
  obtain ⟨rl, hrl⟩ : ∃ r, lastT (cutM y0 23) (cutM y1 59) (cutM y2 59) = r := ⟨_, rfl⟩
  rw [hrl] at c3 l2
  clear hrl l3 hr
  have L2 := hid l2
  have HS0 := hid hS0
  have hwsz : (w.alloc (.cells #[.int .u64 y0, .int .u64 y1, .int .u64 y2] 52)).heap.size = w.heap.size + 1 := by simp
  obtain ⟨W0, hW0⟩ : ∃ W0, w.alloc (.cells #[.int .u64 y0, .int .u64 y1, .int .u64 y2] 52) = W0 := ⟨_, rfl⟩
  rw [hW0] at HS0 hwsz
  have HW0 := hid hW0
  have HT0 := hid (HT.out.later HS0.out.2.2.2.1)
  clear l2 hS0 hW0 hwsz
  obtain ⟨t1, t2, t3, _, _⟩ := HS0.out
  go_enter Tryd.func14, Tryd.ntmps14
  go_wp2_with fail
  rw [HW0.out]
  go_loopw [3, 4, 5, 6, 7] (fun a n l _ _ wr => ∃ k : Nat, n = .int .i64 k ∧ k ≤ L.length ∧ l = .int .i64 (lastI L k) ∧ a = .int .i64 (atI L k) ∧ wr = W0) (fun _ n _ _ _ _ => L.length - (intOf n).toNat)
  case atStart => exact ⟨0, rfl, by omega, rfl, rfl, rfl⟩
  case round =>
    obtain ⟨k, rfl, hk, rfl, rfl, rfl⟩ := hrel
    obtain ⟨lb1, lb2⟩ := lb.out k
    have h87 : (k : Int) < 87000 := by omega
    clear hle
    by_cases hlt : k < L.length
    · have C2 := hid (c2.out wr HT0.out k hlt)
      have C6 := hid (c6.out wr L[k] (List.getElem_mem hlt))
      have hls := hid (lastI_succ L k hlt)
      have hl4 := l4.out k hlt
      have hb := hbd.out L[k] (List.getElem_mem hlt)
      obtain ⟨x, hx⟩ : ∃ x, L[k] = x := ⟨_, rfl⟩
      obtain ⟨y, hy⟩ : ∃ y, lastI L k = y := ⟨_, rfl⟩
      rw [hx, hy] at C2 hl4
      rw [hx] at C6 hls hb
      have hat : atI L k = y + 1 := by rw [atI, hy]
      have hat2 : Hid (atI L (k + 1) = x + 1) := by show _ = _; rw [atI, hls.out]
      rw [hy] at lb1 lb2 ⊢
      rw [hat]
      have hb2 : x ≤ 1000000000000 := by omega
      have hb1 : -1 ≤ x := by omega
      have lb3 : y ≤ 1000000000000 := by omega
      clear hx hy hb lb2 hat
      go_wp2_with fail
      refine C2.out.mono ?_
      rintro e w' ⟨rfl, rfl⟩
      have q1 : decide (x ≤ y) = false := by simp; omega
      have q2 : decide (x < y + 1) = false := by simp; omega
      clear hl4 lb1 lb3
      go_wp2_with fail
      refine C6.out.mono ?_
      rintro e w' ⟨rfl, rfl⟩
      go_wp2
      exact ⟨⟨k + 1, by go_num, by omega, by rw [hls.out], by rw [hat2.out], trivial⟩, by simp [intOf]; omega⟩
    · obtain rfl : k = L.length := by omega
      have C5 := hid (c5.out wr HT0.out)
      obtain ⟨y, hy⟩ : ∃ y, lastI L L.length = y := ⟨_, rfl⟩
      have Hy := hid hy
      have hat : atI L L.length = y + 1 := by rw [atI, hy]
      rw [hy] at C5 lb1 lb2 ⊢
      rw [hat]
      clear hat
      clear hy hlt
      go_wp2_with fail
      refine C5.out.mono ?_
      rintro e w' ⟨rfl, rfl⟩
      obtain ⟨rl1, rl2⟩ := rl
      rcases L2.out with ⟨e1, e2⟩ | ⟨e1, e2⟩
      · obtain ⟨e3, e4⟩ := Prod.mk.inj e2
        subst e3 e4
        clear e2
        go_wp2_with fail
        refine (c3.out wr HT0.out).mono ?_
        rintro e w2 ⟨rfl, hb2⟩
        have HS2 := hid (HS0.out.keep hb2)
        obtain ⟨t1, t2, t3, _, _⟩ := HS2.out
        clear hb2
        go_wp2_with fail
        refine (c4.out w2).mono ?_
        rintro e w' ⟨rfl, rfl⟩
        go_wp2_with fail
        refine (lives07_any w2 (HT.out.later HS2.out.2.2.2.1)).mono ?_
        rintro e w' ⟨rfl, rfl⟩
        go_wp2
        go_ret
        exact ⟨rfl, HS2.out.2.2.2.1⟩
      · obtain ⟨e3, e4⟩ := Prod.mk.inj e2
        have hyy : y = rl1 := by
          rw [e3, ← Hy.out]
          unfold lastI
          rw [if_neg (by omega)]
        subst e4
        subst hyy
        clear e2 e3
        go_wp2_with fail
        refine (c3.out wr HT0.out).mono ?_
        rintro e w2 ⟨rfl, hb2⟩
        have HS2 := hid (HS0.out.keep hb2)
        obtain ⟨t1, t2, t3, _, _⟩ := HS2.out
        clear hb2
        go_wp2_with fail
        refine (c4.out w2).mono ?_
        rintro e w' ⟨rfl, rfl⟩
        go_wp2_with fail
        refine (lives07_any w2 (HT.out.later HS2.out.2.2.2.1)).mono ?_
        rintro e w' ⟨rfl, rfl⟩
        go_wp2
        go_ret
        exact ⟨rfl, HS2.out.2.2.2.1⟩
end Go.Proofs.YtdggflkkojmabaaDoor

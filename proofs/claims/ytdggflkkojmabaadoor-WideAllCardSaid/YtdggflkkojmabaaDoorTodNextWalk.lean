/-
  ferialaw07.TodNext answers true for every second and masks.
-/
import Derived.Test.YtdggflkkojmabaaDoorTodNextLaw
import Derived.Test.YtdggflkkojmabaaDoorSecsAll
namespace Go.Proofs.YtdggflkkojmabaaDoor
open Go.RowKit
set_option linter.unusedVariables false

/-- the box of the statement's array -/
abbrev TbS (w : World) (y0 y1 y2 : Nat) (W : World) : Prop :=
  W.cell? ⟨w.heap.size, 0, none⟩ = some (.int .u64 y0) ∧ W.cell? ⟨w.heap.size, 1, none⟩ = some (.int .u64 y1) ∧ W.cell? ⟨w.heap.size, 2, none⟩ = some (.int .u64 y2) ∧ Below w.heap.size w W ∧ w.heap.size < W.heap.size
theorem TbS.keep {w W W' : World} {y0 y1 y2 : Nat} (h : TbS w y0 y1 y2 W) (hb : Below W.heap.size W W') : TbS w y0 y1 y2 W' := by
  obtain ⟨h1, h2, h3, h4, h5⟩ := h
  exact ⟨(hb.cell (p := ⟨w.heap.size, 0, none⟩) h5).trans h1, (hb.cell (p := ⟨w.heap.size, 1, none⟩) h5).trans h2, (hb.cell (p := ⟨w.heap.size, 2, none⟩) h5).trans h3, h4.trans (hb.mono (by omega)), Nat.lt_of_lt_of_le h5 hb.size⟩

set_option maxRecDepth 100000 in
set_option maxHeartbeats 8000000 in
theorem TodNext_walk (s : Int) (y0 y1 y2 : Nat) (w : World) (hs : -9223372036854775808 ≤ s ∧ s ≤ 9223372036854775807)
    (hy0 : y0 < 18446744073709551616) (hy1 : y1 < 18446744073709551616) (hy2 : y2 < 18446744073709551616) (hT : Tab w) :
    Calls Tryd.prog 13 #[.int .i64 s, .agg #[.int .u64 y0, .int .u64 y1, .int .u64 y2]] w fun e w' => e = .returned (.bool true) ∧ Below w.heap.size w w' := by
  have HT := hid hT
  clear hT
  have hS0 : TbS w y0 y1 y2 (w.alloc (.cells #[.int .u64 y0, .int .u64 y1, .int .u64 y2] 52)) := ⟨by simp [go_sem], by simp [go_sem], by simp [go_sem], below_new (Below.refl _ _) (Nat.le_refl _), by simp [go_sem]⟩
  have c1 := hid (fun W => own_ret (RAll_any y0 y1 y2 W hy0 hy1 hy2))
  have c2 := hid (fun W (h : Tab W) => TNext_any s y0 y1 y2 W hy0 hy1 hy2 h)
  have c3 := hid (fun W (h : Tab W) => TLast_any y0 y1 y2 W hy0 hy1 hy2 h)
  have c4 := hid (fun W => TLen_any y0 y1 y2 W hy0 hy1 hy2)
  have l1 := wantK_first (fun y hy => (secsOf_bd y0 y1 y2 hy).1) (secsOf_rising y0 y1 y2) (secsOf_first s y0 y1 y2 hy0 hy1 hy2)
  have l2 := secsOf_last' y0 y1 y2 hy0 hy1 hy2
  have l3 := hid (secsOf_len y0 y1 y2)
  have hbd := hid (fun y (hy : y ∈ secsOf y0 y1 y2) => secsOf_bd y0 y1 y2 hy)
  have hle : (secsOf y0 y1 y2).length ≤ 262144 := by
    rw [secsOf, secs_len]
    exact Nat.mul_le_mul (sel_len _ _) (Nat.mul_le_mul (sel_len _ _) (sel_len _ _))
  have c1' : Hid (∀ W, Calls Tryd.prog 51 #[.int .u64 y0, .int .u64 y1, .int .u64 y2] W fun e w' => ∃ a n cap, e = .returned (.slice a n cap) ∧ Hid (n = (secsOf y0 y1 y2).length) ∧ Sl w' a (ints (secsOf y0 y1 y2)) ∧ w'.ownsRow W.heap.size 3 1 (.slice a n cap) n (ints (secsOf y0 y1 y2)) ∧ Below W.heap.size W w') := c1
  rw [l3.out] at c4
  obtain ⟨L, hL⟩ : ∃ L, secsOf y0 y1 y2 = L := ⟨_, rfl⟩
  rw [hL] at c1' c4 l1 l2 hbd hle
  obtain ⟨rn, hrn⟩ : ∃ r, nextF s (cutM y0 23) (cutM y1 59) (cutM y2 59) = r := ⟨_, rfl⟩
  obtain ⟨rl, hrl⟩ : ∃ r, lastT (cutM y0 23) (cutM y1 59) (cutM y2 59) = r := ⟨_, rfl⟩
  rw [hrn] at c2 l1
  rw [hrl] at c3 l2
  clear hL hrn hrl c1 l3
  have L1 := hid l1
  have L2 := hid l2
  have HS0 := hid hS0
  clear l1 l2 hS0
  go_enter Tryd.func13, Tryd.ntmps13
  go_wp2_with fail
  refine (c1'.out _).mono ?_
  rintro e W0 ⟨a, n, cap, rfl, hn, hsl, _, hB⟩
  obtain rfl := hn.out
  have HS1 := hid (HS0.out.keep hB)
  have Hsl := hid hsl
  clear hB hsl hn HS0 c1'
  have HT1 := hid (HT.out.later HS1.out.2.2.2.1)
  go_wp2_with fail
  go_loopw [6, 7] (fun v i wr => ∃ k : Nat, i = .int .i64 k ∧ k ≤ L.length ∧ v = .int .i64 (wantK L s k) ∧ wr = W0) (fun _ i _ => L.length - (intOf i).toNat)
  case atStart => exact ⟨0, rfl, by omega, rfl, rfl⟩
  case round =>
    obtain ⟨k, rfl, hk, rfl, rfl⟩ := hrel
    by_cases hgo : k < L.length ∧ wantK L s k < 0
    · obtain ⟨hlt, hneg⟩ := hgo
      obtain ⟨b, off, rfl, hbk, hc⟩ := Hsl.out.atInt hlt
      have e1 := hc k hlt
      have hst := hid (wantK_step hlt (fun y hy => (hbd.out y hy).1) hneg)
      have hb := hbd.out L[k] (List.getElem_mem hlt)
      obtain ⟨x, hx⟩ : ∃ x, L[k] = x := ⟨_, rfl⟩
      rw [hx] at e1 hst hb
      rw [wantK_neg (fun y hy => (hbd.out y hy).1) hneg]
      clear hc hx hneg
      by_cases hsx : s ≤ x
      · have hst' : Hid (wantK L s (k + 1) = x) := by show _ = _; rw [hst.out, if_pos hsx]
        clear hst
        go_wp2
        exact ⟨⟨k + 1, by go_num, by omega, by rw [hst'.out], trivial⟩, by simp [intOf]; omega⟩
      · have hst' : Hid (wantK L s (k + 1) = -1) := by show _ = _; rw [hst.out, if_neg hsx]
        clear hst
        go_wp2
        exact ⟨⟨k + 1, by go_num, by omega, by rw [hst'.out], trivial⟩, by simp [intOf]; omega⟩
    · have hq : wantK L s k = wantK L s L.length := by
        by_cases h0 : k < L.length
        · exact (wantK_done (by omega)).symm
        · rw [show k = L.length by omega]
      rw [hq] at hgo ⊢
      obtain ⟨rn1, rn2⟩ := rn
      obtain ⟨rl1, rl2⟩ := rl
      obtain ⟨t1, t2, t3, _, _⟩ := HS1.out
      rcases L2.out with ⟨e1, e2⟩ | ⟨e1, e2⟩
      · obtain ⟨e3, e4⟩ := Prod.mk.inj e2
        subst e3 e4
        rcases L1.out with ⟨_, pm, _, _⟩ | ⟨p1, p2, p3⟩
        · rw [List.eq_nil_of_length_eq_zero e1] at pm; cases pm
        simp only at p2 p3
        subst p2 p3
        rw [p1] at hgo ⊢
        obtain rfl : k = L.length := by omega
        clear e2 hq hgo p1
        have hz : ((L.length : Int) : Int) = 0 := by omega
        go_wp2_with fail
        refine (c2.out wr HT1.out).mono ?_
        rintro e w' ⟨rfl, rfl⟩
        go_wp2_with fail
        refine (c3.out wr HT1.out).mono ?_
        rintro e w2 ⟨rfl, hb2⟩
        have HS2 := hid (HS1.out.keep hb2)
        obtain ⟨t1, t2, t3, _, _⟩ := HS2.out
        clear hb2
        go_wp2_with fail
        refine (c4.out w2).mono ?_
        rintro e w' ⟨rfl, rfl⟩
        go_wp2_with fail
        refine (lives07_any w2 (HT.out.later HS2.out.2.2.2.1)).mono ?_
        rintro e w' ⟨rfl, rfl⟩
        go_wp2
        go_ret
        exact ⟨rfl, HS2.out.2.2.2.1⟩
      · obtain ⟨e3, e4⟩ := Prod.mk.inj e2
        have hlt : L.length - 1 < L.length := by omega
        obtain ⟨b, off, rfl, hbk, hc⟩ := Hsl.out.atInt hlt
        have e5 := hc (L.length - 1) hlt
        rw [List.getD_eq_getElem?_getD, List.getElem?_eq_getElem hlt, Option.getD_some] at e3
        rw [← e3] at e5
        subst e4
        have hln : ((L.length : Int) - 1) = ((L.length - 1 : Nat) : Int) := by omega
        clear e2 e3 hc
        rcases L1.out with ⟨p1, pm, p2, p3⟩ | ⟨p1, p2, p3⟩
        · simp only at p2 p3
          obtain ⟨q, hqq⟩ : ∃ q, wantK L s L.length = q := ⟨_, rfl⟩
          rw [hqq] at hgo p1 p3 ⊢
          subst p2 p3
          clear hq hqq pm
          clear hgo
          by_cases hkl : k < L.length
          · go_wp2_with fail
            refine (c2.out wr HT1.out).mono ?_
            rintro e w' ⟨rfl, rfl⟩
            go_wp2_with fail
            refine (c3.out wr HT1.out).mono ?_
            rintro e w2 ⟨rfl, hb2⟩
            have HS2 := hid (HS1.out.keep hb2)
            obtain ⟨t1, t2, t3, _, _⟩ := HS2.out
            have e6 := (hb2.cell (p := ⟨b, off + (L.length - 1), none⟩) hbk).trans e5
            clear hb2
            go_wp2_with fail
            refine (c4.out w2).mono ?_
            rintro e w' ⟨rfl, rfl⟩
            go_wp2_with fail
            refine (lives07_any w2 (HT.out.later HS2.out.2.2.2.1)).mono ?_
            rintro e w' ⟨rfl, rfl⟩
            go_wp2
            go_ret
            exact ⟨rfl, HS2.out.2.2.2.1⟩
          · obtain rfl : k = L.length := by omega
            clear hkl
            go_wp2_with fail
            refine (c2.out wr HT1.out).mono ?_
            rintro e w' ⟨rfl, rfl⟩
            go_wp2_with fail
            refine (c3.out wr HT1.out).mono ?_
            rintro e w2 ⟨rfl, hb2⟩
            have HS2 := hid (HS1.out.keep hb2)
            obtain ⟨t1, t2, t3, _, _⟩ := HS2.out
            have e6 := (hb2.cell (p := ⟨b, off + (L.length - 1), none⟩) hbk).trans e5
            clear hb2
            go_wp2_with fail
            refine (c4.out w2).mono ?_
            rintro e w' ⟨rfl, rfl⟩
            go_wp2_with fail
            refine (lives07_any w2 (HT.out.later HS2.out.2.2.2.1)).mono ?_
            rintro e w' ⟨rfl, rfl⟩
            go_wp2
            go_ret
            exact ⟨rfl, HS2.out.2.2.2.1⟩
        · simp only at p2 p3
          subst p2 p3
          rw [p1] at hgo ⊢
          obtain rfl : k = L.length := by omega
          clear hq hgo p1
          go_wp2_with fail
          refine (c2.out wr HT1.out).mono ?_
          rintro e w' ⟨rfl, rfl⟩
          go_wp2_with fail
          refine (c3.out wr HT1.out).mono ?_
          rintro e w2 ⟨rfl, hb2⟩
          have HS2 := hid (HS1.out.keep hb2)
          obtain ⟨t1, t2, t3, _, _⟩ := HS2.out
          have e6 := (hb2.cell (p := ⟨b, off + (L.length - 1), none⟩) hbk).trans e5
          clear hb2
          go_wp2_with fail
          refine (c4.out w2).mono ?_
          rintro e w' ⟨rfl, rfl⟩
          go_wp2_with fail
          refine (lives07_any w2 (HT.out.later HS2.out.2.2.2.1)).mono ?_
          rintro e w' ⟨rfl, rfl⟩
          go_wp2
          go_ret
          exact ⟨rfl, HS2.out.2.2.2.1⟩
end Go.Proofs.YtdggflkkojmabaaDoor

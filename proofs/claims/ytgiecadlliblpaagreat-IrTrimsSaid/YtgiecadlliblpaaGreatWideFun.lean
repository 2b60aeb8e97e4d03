/-
  What wide.All, wide.Bounds and feriaref04.List compute.
-/
import Derived.Test.YtgiecadlliblpaaGreatWideIter
namespace Go.Proofs.YtgiecadlliblpaaGreat
open Go.RowKit
set_option linter.unusedVariables false
attribute [local go_sem] Oper.semAt_some

/-- the words laid into a block that is there -/
theorem wcells_put {W : World} {b : Nat} {s v : Nat → Nat} (h : WCells W b s) :
    WCells (((((((W.setCell ⟨b, 0, none⟩ (.int .u64 (v 0 : Nat))).setCell ⟨b, 1, none⟩ (.int .u64 (v 1 : Nat))).setCell ⟨b, 2, none⟩ (.int .u64 (v 2 : Nat))).setCell ⟨b, 3, none⟩ (.int .u64 (v 3 : Nat))).setCell ⟨b, 4, none⟩ (.int .u64 (v 4 : Nat))).setCell ⟨b, 5, none⟩ (.int .u64 (v 5 : Nat))).setCell ⟨b, 6, none⟩ (.int .u64 (v 6 : Nat))) b v := by
  refine WCells.congr (((((((h.set (v := v 0) (by omega)).set (v := v 1) (by omega)).set (v := v 2) (by omega)).set (v := v 3) (by omega)).set (v := v 4) (by omega)).set (v := v 5) (by omega)).set (v := v 6) (by omega)) (fun i hi => ?_)
  rcases seven hi with rfl | rfl | rfl | rfl | rfl | rfl | rfl <;> simp
theorem below_put {B b : Nat} {A W : World} {v : Nat → Nat} (h : Below B A W) (hb : B ≤ b) :
    Below B A (((((((W.setCell ⟨b, 0, none⟩ (.int .u64 (v 0 : Nat))).setCell ⟨b, 1, none⟩ (.int .u64 (v 1 : Nat))).setCell ⟨b, 2, none⟩ (.int .u64 (v 2 : Nat))).setCell ⟨b, 3, none⟩ (.int .u64 (v 3 : Nat))).setCell ⟨b, 4, none⟩ (.int .u64 (v 4 : Nat))).setCell ⟨b, 5, none⟩ (.int .u64 (v 5 : Nat))).setCell ⟨b, 6, none⟩ (.int .u64 (v 6 : Nat))) :=
  below_set (below_set (below_set (below_set (below_set (below_set (below_set h hb) hb) hb) hb) hb) hb) hb

set_option maxHeartbeats 1600000 in
theorem WList_any (s : Nat → Nat) (w : World) (hs : ∀ i, i < 7 → s i < 18446744073709551616) :
    Calls Tryz.prog 53 #[wv s] w fun e w' => ∃ v, e = .returned v ∧ w'.ownsRow w.heap.size 3 1 v (wsel s).length (ints (wsel s)) ∧ Below w.heap.size w w' := by
  have c1 := hid (fun n W => RHasW_any s n W hs)
  have hB0 : Below w.heap.size w (w.alloc (.cells #[.int .u64 (s 0 : Nat), .int .u64 (s 1 : Nat), .int .u64 (s 2 : Nat), .int .u64 (s 3 : Nat), .int .u64 (s 4 : Nat), .int .u64 (s 5 : Nat), .int .u64 (s 6 : Nat)] 38)) := below_new (Below.refl _ _) (Nat.le_refl _)
  have HS0 : Hid (BoxS w s (w.alloc (.cells #[.int .u64 (s 0 : Nat), .int .u64 (s 1 : Nat), .int .u64 (s 2 : Nat), .int .u64 (s 3 : Nat), .int .u64 (s 4 : Nat), .int .u64 (s 5 : Nat), .int .u64 (s 6 : Nat)] 38))) := by
    obtain ⟨r0, r1, r2, r3, r4, r5, r6⟩ := (wcells_new w s 38).all
    exact ⟨r0, r1, r2, r3, r4, r5, r6, hB0, by simp [go_sem]⟩
  clear hB0 hs
  go_enter Tryz.func53, Tryz.ntmps53
  go_wp2
  go_loopw [3, 4] (fun v i wr => ∃ (n m cap : Nat) (a : Option Addr), i = .int .i64 n ∧ Hid (n ≤ 400) ∧ v = .slice a m cap ∧ Hid (m = (sel (bitW s) n).length ∧ m ≤ n) ∧ Hid (wr.ownsRow (w.heap.size + 1) 3 1 (.slice a m cap) m (ints (sel (bitW s) n))) ∧ Hid (BoxS w s wr)) (fun _ i _ => (400 - intOf i).toNat)
  case atStart => exact ⟨0, 0, 0, none, rfl, by show (0 : Nat) ≤ 400; omega, rfl, ⟨rfl, Nat.le_refl _⟩, World.ownsRow_nil _ _ _ _, HS0.out⟩
  case round =>
    obtain ⟨n, m, cap, a, rfl, hn, rfl, hme, hown, hbx⟩ := hrel
    obtain ⟨z0, z1, z2, z3, z4, z5, z6, hB, hlt0⟩ := hbx.out
    have HB := hid hB
    clear hB
    by_cases hlt : (n : Int) < 400
    · have H2 : Hid (Calls Tryz.prog 68 #[wv s, .int .i64 n] wr fun e w' => e = .returned (.bool (bitW s n)) ∧ Below wr.heap.size wr w') := by
        have := c1.out n wr
        have e : hasW s (n : Int) = bitW s n := by simp [hasW, mayB]; omega
        rw [e] at this; exact this
      by_cases hb : bitW s n = true
      · have Hy := hid (sel_yes hb)
        rw [hb] at H2
        clear hb
        go_wp2_with fail
        refine H2.out.mono ?_
        rintro e w1 ⟨rfl, hb1⟩
        have hown1 := owns_below hown.out hb1 (Nat.le_refl _)
        have hbx1 := hid (hbx.out.keep hb1)
        have hm : m ≤ 400 := by have := hme.out.2; have := hn.out; omega
        have Hb1 := hid hb1
        have hs1 := hb1.size
        clear hb1 z0 z1 z2 z3 z4 z5 z6
        go_wp2_with (at_builtin; refine app1 eInt (.tmp 12) (.tmp 14) rfl rfl rfl rfl rfl hown1 rfl (by omega) (by omega) (by omega) ?_)
        intro a' cap' w' hown2 hg2 hb2 hf2
        rw [← ints_one, ← ints_append, ← Hy.out] at hown2
        have hbx2 : Hid (BoxS w s w') := by
          obtain ⟨h0, h1, h2, h3, h4, h5, h6, h7, h8⟩ := hbx1.out
          exact ⟨(hb2.cell (p := ⟨w.heap.size, 0, none⟩) (by simp)).trans h0, (hb2.cell (p := ⟨w.heap.size, 1, none⟩) (by simp)).trans h1, (hb2.cell (p := ⟨w.heap.size, 2, none⟩) (by simp)).trans h2, (hb2.cell (p := ⟨w.heap.size, 3, none⟩) (by simp)).trans h3,
            (hb2.cell (p := ⟨w.heap.size, 4, none⟩) (by simp)).trans h4, (hb2.cell (p := ⟨w.heap.size, 5, none⟩) (by simp)).trans h5, (hb2.cell (p := ⟨w.heap.size, 6, none⟩) (by simp)).trans h6, h7.trans (hb2.mono (by omega)), Nat.lt_of_lt_of_le h8 hb2.size⟩
        have Hown2 := hid hown2
        clear hown2 hg2 hb2 hf2 hown1
        go_wp2
        exact ⟨⟨n + 1, m + 1, cap', a', by go_num, by show n + 1 ≤ 400; omega, rfl, ⟨by rw [Hy.out, List.length_append, ← hme.out.1]; rfl, by have := hme.out.2; omega⟩, Hown2, hbx2⟩, by simp [intOf]; omega⟩
      · have hb' : bitW s n = false := by simpa using hb
        have Hy := hid (sel_no hb')
        rw [hb'] at H2
        clear hb hb'
        go_wp2_with fail
        refine H2.out.mono ?_
        rintro e w1 ⟨rfl, hb1⟩
        have hown1 := hid (owns_below hown.out hb1 (Nat.le_refl _))
        have hbx1 := hid (hbx.out.keep hb1)
        clear hb1 z0 z1 z2 z3 z4 z5 z6
        go_wp2
        exact ⟨⟨n + 1, m, cap, a, by go_num, by show n + 1 ≤ 400; omega, rfl, ⟨by rw [Hy.out]; exact hme.out.1, by have := hme.out.2; omega⟩, by rw [Hy.out]; exact hown1, hbx1⟩, by simp [intOf]; omega⟩
    · have hnn : n = 400 := by have := hn.out; omega
      have hown' := hown.out
      have hm' := hme.out.1
      rw [hnn] at hown' hm'
      have Hown := hid hown'
      have Hm := hid hm'
      clear hnn hown' hm'
      go_wp2
      go_ret
      exact ⟨_, rfl, by have := Hm.out; rw [show (wsel s).length = m from Hm.out.symm]; exact owns_base Hown.out (by omega), HB.out⟩
end Go.Proofs.YtgiecadlliblpaaGreat

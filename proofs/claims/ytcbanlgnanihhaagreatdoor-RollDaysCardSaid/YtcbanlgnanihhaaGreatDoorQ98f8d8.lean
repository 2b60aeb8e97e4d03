/-
  What feriaref04.Of computes: the set of a list.
-/
import Derived.Test.YtcbanlgnanihhaaGreatDoorQfc9a4f
namespace Go.Proofs.YtcbanlgnanihhaaGreatDoor
open Go.RowKit
set_option linter.unusedVariables false

def inL (l : List Int) (j : Nat) : Bool := decide ((j : Int) ∈ l) && decide (j < 400)
theorem inL_in (l : List Int) (n j : Nat) (h : n < 400) : inL (l ++ [(n : Int)]) j = if j = n then true else inL l j := by
  rw [inL, inL, Bool.eq_iff_iff]
  split
  · simp; omega
  · rename_i h
    simp only [Bool.and_eq_true, decide_eq_true_eq, List.mem_append, List.mem_singleton]
    constructor
    · rintro ⟨h1 | h1, h2⟩
      · exact ⟨h1, h2⟩
      · omega
    · rintro ⟨h1, h2⟩; exact ⟨.inl h1, h2⟩
theorem inL_out (l : List Int) (x : Int) (h : mayB x = false) (j : Nat) : inL (l ++ [x]) j = inL l j := by
  simp only [mayB, Bool.and_eq_false_iff, decide_eq_false_iff_not] at h
  rw [inL, inL, Bool.eq_iff_iff]
  simp only [Bool.and_eq_true, decide_eq_true_eq, List.mem_append, List.mem_singleton]
  constructor
  · rintro ⟨h1 | h1, h2⟩
    · exact ⟨h1, h2⟩
    · omega
  · rintro ⟨h1, h2⟩; exact ⟨.inl h1, h2⟩
/-- the bools of a list, in a block -/
def InC (W : World) (b : Nat) (l : List Int) : Prop := ∀ j, j < 448 → W.cell? ⟨b, j, none⟩ = some (.bool (inL l j))

theorem zc120 : Tryz.zeroCells163 = Array.replicate 448 (.bool false) := by kernel_rfl
theorem inC_new (w : World) : InC (w.alloc (.cells Tryz.zeroCells163 163)) w.heap.size [] := fun j hj => by
  rw [zc120]
  simp [go_sem, hj, inL]
theorem InC.below {W W' : World} {b B : Nat} {l : List Int} (h : InC W b l) (hb : Below B W W') (hB : b < B) : InC W' b l := fun j hj => (hb.cell (p := ⟨b, j, none⟩) hB).trans (h j hj)
/-- the words of the set, word i begun -/
def wpre (l : List Int) (i n : Nat) (j : Nat) : Nat := if j = i then upM (inWB l i) n else if j < i then wof l j else 0

set_option maxRecDepth 100000 in
set_option maxHeartbeats 3200000 in
theorem ROfW_any (a : Option Addr) (cap : Nat) (l : List Int) (w : World) (hl : l.length ≤ 9223372036854775807) (hs : Sl w a (ints l)) :
    Calls Tryz.prog 68 #[.slice a l.length cap] w fun e w' => e = .returned (wv (wof l)) ∧ Below w.heap.size w w' := by
  have Hs := hid hs
  clear hs
  obtain ⟨W0, hW0⟩ : ∃ W0, (w.alloc (.cells #[.int .u64 0, .int .u64 0, .int .u64 0, .int .u64 0, .int .u64 0, .int .u64 0, .int .u64 0] 30)).alloc (.cells Tryz.zeroCells163 163) = W0 := ⟨_, rfl⟩
  have q1 : W0.heap.size = w.heap.size + 2 := by rw [← hW0]; simp
  have q2 : Below w.heap.size w W0 := by rw [← hW0]; exact below_new (below_new (Below.refl _ _) (Nat.le_refl _)) (by simp)
  have q3 : InC W0 (w.heap.size + 1) [] := by
    rw [← hW0]
    have := inC_new (w.alloc (.cells #[.int .u64 0, .int .u64 0, .int .u64 0, .int .u64 0, .int .u64 0, .int .u64 0, .int .u64 0] 30))
    rwa [World.size_alloc] at this
  have q4 : WFree W0 (w.heap.size + 1) := fun i => by rw [← hW0, zc120]; simp [go_sem]
  have q5 : WCells W0 w.heap.size (fun _ => 0) := by
    rw [← hW0]
    refine WCells.below (W := w.alloc (.cells #[.int .u64 0, .int .u64 0, .int .u64 0, .int .u64 0, .int .u64 0, .int .u64 0, .int .u64 0] 30)) (fun i hi => ?_) (below_new (Below.refl _ _) (Nat.le_refl _)) (by simp)
    rcases seven hi with rfl | rfl | rfl | rfl | rfl | rfl | rfl <;> simp [go_sem]
  have q6 : WFree W0 w.heap.size := by
    rw [← hW0]
    refine WFree.below (W := w.alloc (.cells #[.int .u64 0, .int .u64 0, .int .u64 0, .int .u64 0, .int .u64 0, .int .u64 0, .int .u64 0] 30)) (fun i => by simp [go_sem]) (below_new (Below.refl _ _) (Nat.le_refl _)) (by simp)
  have HW0 := hid hW0
  have HQ := hid (And.intro q2 (And.intro q3 (And.intro q4 (And.intro q5 q6))))
  clear hW0 q2 q3 q4 q5 q6
  go_enter Tryz.func68, Tryz.ntmps68
  go_wp2_with fail
  rw [HW0.out]
  go_loopw [4] (fun i wr => ∃ k : Nat, i = .int .i64 k ∧ k ≤ l.length ∧ wr.heap.size = w.heap.size + 2 ∧ Hid (InC wr (w.heap.size + 1) (l.take k) ∧ WFree wr (w.heap.size + 1) ∧ WCells wr w.heap.size (fun _ => 0) ∧ WFree wr w.heap.size ∧ Below w.heap.size w wr)) (fun i _ => l.length - (intOf i).toNat)
  case atStart => exact ⟨0, rfl, by omega, q1, HQ.out.2.1, HQ.out.2.2.1, HQ.out.2.2.2.1, HQ.out.2.2.2.2, HQ.out.1⟩
  case round =>
    obtain ⟨k, rfl, hk, hsz, HI⟩ := hrel
    by_cases hlt : k < l.length
    · obtain ⟨b, off, rfl, hb, hc⟩ := Hs.out.atInt hlt
      have e1 := (HI.out.2.2.2.2.cell (p := ⟨b, off + k, none⟩) hb).trans (hc k hlt)
      have ht := hid (take_snoc l k hlt)
      obtain ⟨x, hx⟩ : ∃ x, l[k] = x := ⟨_, rfl⟩
      rw [hx] at e1 ht
      clear hc hx
      by_cases hm : mayB x = true
      · rw [mayB] at hm
        simp at hm
        obtain ⟨n, rfl⟩ : ∃ n : Nat, x = n := ⟨x.toNat, by omega⟩
        have hn : n < 400 := by omega
        have hnI : (n : Int) < 400 := by omega
        have hn448 : n < 448 := by omega
        have e2 := HI.out.1 n hn448
        have e3 := HI.out.2.1 n
        have done : InC (wr.setCell ⟨w.heap.size + 1, n, none⟩ (.bool true)) (w.heap.size + 1) (l.take (k + 1)) ∧ WFree (wr.setCell ⟨w.heap.size + 1, n, none⟩ (.bool true)) (w.heap.size + 1) ∧ WCells (wr.setCell ⟨w.heap.size + 1, n, none⟩ (.bool true)) w.heap.size (fun _ => 0) ∧
            WFree (wr.setCell ⟨w.heap.size + 1, n, none⟩ (.bool true)) w.heap.size ∧ Below w.heap.size w (wr.setCell ⟨w.heap.size + 1, n, none⟩ (.bool true)) := by
          obtain ⟨d1, d2, d3, d4, d5⟩ := HI.out
          refine ⟨fun j hj => ?_, d2.set _ _, fun j hj => (World.cell?_of_block (w := wr) (a := ⟨w.heap.size, j, none⟩) (Below.heap_setCell _ _ _ _ (by simp))).trans (d3 j hj), d4.set _ _, below_set d5 (by omega)⟩
          rw [ht.out, inL_in _ _ _ hn]
          by_cases e : j = n
          · subst e; simp [go_sem, d1 j hj]
          · simp [go_sem, d1 j hj, e]
        have Done := hid done
        clear done hm hn hn448
        go_wp2
        obtain ⟨d1, d2, d3, d4, d5⟩ := Done.out
        exact ⟨⟨k + 1, by go_num, by omega, by simpa [go_sem] using hsz, d1, d2, d3, d4, d5⟩, by simp [intOf]; omega⟩
      · have hm' : mayB x = false := by simpa using hm
        have he := hid (fun j => inL_out (l.take k) x hm' j)
        have hI' : Hid (InC wr (w.heap.size + 1) (l.take (k + 1))) := fun j hj => by rw [ht.out, he.out]; exact HI.out.1 j hj
        by_cases h0 : 0 ≤ x
        · have h1 : ¬ x < 400 := by simp [mayB] at hm'; omega
          clear hm hm'
          go_wp2
          exact ⟨⟨k + 1, by go_num, by omega, hsz, hI'.out, HI.out.2⟩, by simp [intOf]; omega⟩
        · clear hm hm'
          go_wp2
          exact ⟨⟨k + 1, by go_num, by omega, hsz, hI'.out, HI.out.2⟩, by simp [intOf]; omega⟩
    · have hke : l.take k = l := List.take_of_length_le (by omega)
      have hin : Hid (InC wr (w.heap.size + 1) l) := by rw [← hke]; exact HI.out.1
      obtain ⟨W2, hW2⟩ : ∃ W2, wr.alloc (.cells #[.int .u64 0, .int .u64 0, .int .u64 0, .int .u64 0, .int .u64 0, .int .u64 0, .int .u64 0] 30) = W2 := ⟨_, rfl⟩
      have b2 : Below wr.heap.size wr W2 := by rw [← hW2]; exact below_new (Below.refl _ _) (Nat.le_refl _)
      have p1 : Hid (InC W2 (w.heap.size + 1) l) := hin.out.below b2 (by omega)
      have p2 : Hid (WCells W2 w.heap.size (fun _ => 0)) := HI.out.2.2.1.below b2 (by omega)
      have p3 : Hid (WFree W2 w.heap.size) := HI.out.2.2.2.1.below b2 (by omega)
      have p4 : Hid (WCells W2 (w.heap.size + 2) (fun _ => 0)) := by
        show WCells _ _ _
        rw [← hW2, ← hsz]
        intro i hi
        rcases seven hi with rfl | rfl | rfl | rfl | rfl | rfl | rfl <;> simp [go_sem]
      have p5 : Hid (WFree W2 (w.heap.size + 2)) := fun i => by rw [← hW2, ← hsz]; simp [go_sem]
      have p6 : Hid (Below w.heap.size w W2) := HI.out.2.2.2.2.trans (b2.mono (by omega))
      have HW2 := hid hW2
      clear hke hin b2 hW2
      go_wp2_with fail
      rw [HW2.out]
      go_loopw [6, 7] (fun i _ wq => ∃ n : Nat, i = .int .i64 n ∧ n ≤ 7 ∧ Hid (WCells wq (w.heap.size + 2) (fun j => if j < n then wof l j else 0) ∧ WFree wq (w.heap.size + 2) ∧ InC wq (w.heap.size + 1) l ∧ WCells wq w.heap.size (fun _ => 0) ∧ WFree wq w.heap.size ∧ Below w.heap.size w wq)) (fun i _ _ => 7 - (intOf i).toNat)
      case atStart => exact ⟨0, rfl, by omega, p4.out.congr (fun j hj => by simp), p5.out, p1.out, p2.out, p3.out, p6.out⟩
      case round =>
        obtain ⟨n, rfl, hn, HJ⟩ := hrel
        by_cases hn7 : n < 7
        · go_wp2_with fail
          go_loopw [7] (fun v wq => ∃ m : Nat, m ≤ 64 ∧ v = .int .i64 ((m : Int) - 1) ∧ Hid (WCells wq (w.heap.size + 2) (wpre l n m) ∧ WFree wq (w.heap.size + 2) ∧ InC wq (w.heap.size + 1) l ∧ WCells wq w.heap.size (fun _ => 0) ∧ WFree wq w.heap.size ∧ Below w.heap.size w wq)) (fun v _ => (intOf v + 1).toNat)
          case atStart => exact ⟨64, by omega, by simp, HJ.out.1.congr (fun j hj => by unfold wpre; rw [upM_64]; split <;> (try split) <;> first | rfl | omega), HJ.out.2⟩
          case round =>
            clear HJ
            obtain ⟨m, hm, rfl, HJ⟩ := hrel
            cases m with
            | zero =>
              have h0 : Hid (∀ W, WCells W (w.heap.size + 2) (wpre l n 0) → WCells W (w.heap.size + 2) (fun j => if j < n + 1 then wof l j else 0)) := fun W h => h.congr (fun j hj => by
                unfold wpre
                rw [upM_0]
                by_cases e : j = n
                · subst e; simp [wof]
                · have : (j < n + 1) = (j < n) := by simp; omega
                  simp [e, this])
              go_wp2
              exact ⟨⟨n + 1, by go_num, by omega, h0.out _ HJ.out.1, HJ.out.2⟩, by simp [intOf]; omega⟩
            | succ m =>
              have hm64 : m < 64 := by omega
              have hst := hid (upM_step (inWB l n) m hm64)
              have hh := upM_half (inWB l n) m
              have e1 : ((m + 1 : Nat) : Int) - 1 = (m : Int) := by omega
              rw [e1]
              have c1 : wr.cell? ⟨w.heap.size + 2, n, none⟩ = some (.int .u64 (upM (inWB l n) (m + 1) : Nat)) := by have := HJ.out.1 n hn7; simpa [wpre] using this
              have c2 := HJ.out.2.1 n
              have c3 := HJ.out.2.2.1 (64 * n + m) (by omega)
              have hbit : inL l (64 * n + m) = inWB l n m := rfl
              rw [hbit] at c3
              obtain ⟨M, hM⟩ : ∃ M, upM (inWB l n) (m + 1) = M := ⟨_, rfl⟩
              rw [hM] at hst hh c1
              have hM2 : 2 * M < 18446744073709551616 := by omega
              have hup := upM_lt (inWB l n) m
              have done : ∀ (v : Nat) (W' : World), v = upM (inWB l n) m → WCells W' (w.heap.size + 2) (fun j => if j = n then v else wpre l n (m + 1) j) → WCells W' (w.heap.size + 2) (wpre l n m) := fun v W' hv h => h.congr (fun j hj => by
                by_cases e : j = n
                · subst e; simp [wpre, hv]
                · simp [wpre, e])
              have Done := hid done
              have s0 : Hid (∀ (W : World) (g : Nat → Nat) (v : Nat), WCells W (w.heap.size + 2) g ∧ WFree W (w.heap.size + 2) ∧ InC W (w.heap.size + 1) l ∧ WCells W w.heap.size (fun _ => 0) ∧ WFree W w.heap.size ∧ Below w.heap.size w W →
                  WCells (W.setCell ⟨w.heap.size + 2, n, none⟩ (.int .u64 v)) (w.heap.size + 2) (fun j => if j = n then v else g j) ∧ WFree (W.setCell ⟨w.heap.size + 2, n, none⟩ (.int .u64 v)) (w.heap.size + 2) ∧ InC (W.setCell ⟨w.heap.size + 2, n, none⟩ (.int .u64 v)) (w.heap.size + 1) l ∧
                  WCells (W.setCell ⟨w.heap.size + 2, n, none⟩ (.int .u64 v)) w.heap.size (fun _ => 0) ∧ WFree (W.setCell ⟨w.heap.size + 2, n, none⟩ (.int .u64 v)) w.heap.size ∧ Below w.heap.size w (W.setCell ⟨w.heap.size + 2, n, none⟩ (.int .u64 v))) := fun W g v ⟨d1, d2, d3, d4, d5, d6⟩ =>
                ⟨d1.set hn7, d2.set _ _, fun j hj => (World.cell?_of_block (w := W) (a := ⟨w.heap.size + 1, j, none⟩) (Below.heap_setCell _ _ _ _ (by simp))).trans (d3 j hj), fun j hj => (World.cell?_of_block (w := W) (a := ⟨w.heap.size, j, none⟩) (Below.heap_setCell _ _ _ _ (by simp))).trans (d4 j hj), d5.set _ _, below_set d6 (by omega)⟩
              have e2 : Hid ((2 * (M : Int)) = ((2 * M : Nat) : Int)) := by show _ = _; simp
              have e3 : Hid ((2 * (M : Int) + 1) = ((2 * M + 1 : Nat) : Int)) := by show _ = _; simp
              obtain ⟨bt, hbt⟩ : ∃ b, inWB l n m = b := ⟨_, rfl⟩
              rw [hbt] at c3 hst
              clear done hM hbit hbt e1
              cases bt
              · have hv : Hid (2 * M = upM (inWB l n) m) := by show _ = _; rw [hst.out]; simp
                go_wp2
                rw [e2.out]
                obtain ⟨d1, d2⟩ := s0.out wr _ (2 * M) HJ.out
                exact ⟨⟨m, by omega, rfl, Done.out _ _ hv.out d1, d2⟩, by simp [intOf]⟩
              · have hv : Hid (2 * M + 1 = upM (inWB l n) m) := by show _ = _; rw [hst.out]; simp
                rw [hst.out] at hup
                simp only [if_true] at hup
                go_wp2
                rw [e3.out, e2.out]
                obtain ⟨d1, d2⟩ := s0.out _ _ (2 * M + 1) (s0.out wr _ (2 * M) HJ.out)
                exact ⟨⟨m, by omega, rfl, Done.out _ _ hv.out (d1.congr (fun j hj => by by_cases e : j = n <;> simp [e])), d2⟩, by simp [intOf]⟩
        · obtain rfl : n = 7 := by omega
          have hc' : WCells wr (w.heap.size + 2) (wof l) := HJ.out.1.congr (fun j hj => by simp [hj])
          obtain ⟨_, d1, d2, d3, d4, d5⟩ := HJ.out
          obtain ⟨r0, r1, r2, r3, r4, r5, r6⟩ := hc'.all
          obtain ⟨z0, z1, z2, z3, z4, z5, z6⟩ := d3.all
          have f0 := d4 0
          have f1 := d4 1
          have f2 := d4 2
          have f3 := d4 3
          have f4 := d4 4
          have f5 := d4 5
          have f6 := d4 6
          have D5 := hid d5
          clear hc' d1 d2 d3 d4 d5 HJ
          go_wp2
          refine bodyPost_ret (v := wv (wof l)) (by simp [results, Tryz.results68, go_sem, z0, z1, z2, z3, z4, z5, z6]) rfl ⟨rfl, ?_⟩
          exact below_set (below_set (below_set (below_set (below_set (below_set (below_set D5.out (Nat.le_refl _)) (Nat.le_refl _)) (Nat.le_refl _)) (Nat.le_refl _)) (Nat.le_refl _)) (Nat.le_refl _)) (Nat.le_refl _)
end Go.Proofs.YtcbanlgnanihhaaGreatDoor

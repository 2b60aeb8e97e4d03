/-
  What feriaref15's functions compute: lists of seconds.
-/
import Derived.Test.YtchceegpbfecaaaDoorDiscPut
import Derived.Test.YtchceegpbfecaaaDoorMaskList
namespace Go.Proofs.YtchceegpbfecaaaDoor
open Go.RowKit
set_option linter.unusedVariables false
attribute [local go_sem] zval104 zne104

/-- the marks of a list, in a block -/
def MC (W : World) (b : Nat) (l : List Int) : Prop := ∀ j, j < 86400 → W.cell? ⟨b, j, none⟩ = some (.bool (memD l j))
theorem MC.below {W W' : World} {b B : Nat} {l : List Int} (h : MC W b l) (hb : Below B W W') (hB : b < B) : MC W' b l := fun j hj => (hb.cell (p := ⟨b, j, none⟩) hB).trans (h j hj)
theorem mc_new (W : World) : MC (W.alloc (.cells zcells47 47)) W.heap.size [] := fun i hi => by
  rw [zc104]
  exact cell_rep W 86400 _ _ i hi
theorem memD_in (l : List Int) (n j : Nat) : memD (l ++ [(n : Int)]) j = if j = n then true else memD l j := by
  rw [memD, memD, Bool.eq_iff_iff]
  split
  · rename_i h; simp [h]
  · rename_i h; simp only [decide_eq_true_eq, List.mem_append, List.mem_singleton]
    constructor
    · rintro (h1 | h1)
      · exact h1
      · omega
    · exact fun h1 => .inl h1
theorem memD_out (l : List Int) (x : Int) (h : dsecB x = false) (j : Nat) (hj : j < 86400) : memD (l ++ [x]) j = memD l j := by
  have hne : ¬ (j : Int) = x := fun e => by subst e; rw [dsecB_nat, decide_eq_true hj] at h; cases h
  rw [memD, memD, Bool.eq_iff_iff]
  simp [hne]
/-- the seconds of a set -/
def secL (q : Nat → Bool) : List Int := sel q 86400

set_option maxRecDepth 100000 in
set_option maxHeartbeats 3200000 in
theorem ROf15_any (a : Option Addr) (cap : Nat) (l : List Int) (w : World) (hl : l.length ≤ 9223372036854775807) (hs : Sl w a (ints l)) :
    Calls Tryd.prog 6 #[.slice a l.length cap] w fun e w' => ∃ v, e = .returned v ∧ w'.ownsRow w.heap.size 3 1 v (secL (memD l)).length (ints (secL (memD l))) ∧ Below w.heap.size w w' := by
  have Hs := hid hs
  obtain ⟨W0, hW0⟩ : ∃ W0, w.alloc (.cells zcells47 47) = W0 := ⟨_, rfl⟩
  have q1 : W0.heap.size = w.heap.size + 1 := by rw [← hW0]; simp
  have q2 : Below w.heap.size w W0 := by rw [← hW0]; exact below_new (Below.refl _ _) (Nat.le_refl _)
  have q3 : MC W0 w.heap.size [] := by rw [← hW0]; exact mc_new w
  have q4 : ∀ i, W0.frozen? ⟨w.heap.size, i, none⟩ = false := fun i => by rw [← hW0]; exact frozen_fresh w _ _ i
  have HW0 := hid hW0
  have HQ := hid (And.intro q2 (And.intro q3 q4))
  have hlI : (l.length : Int) ≤ 9223372036854775807 := by omega
  clear hW0 q2 q3 q4 hs hl
  go_enter Tryd.func6, Tryd.ntmps6
  go_wp2_with fail
  rw [HW0.out]
  go_loopw [4] (fun i wr => ∃ k : Nat, i = .int .i64 k ∧ k ≤ l.length ∧ wr.heap.size = w.heap.size + 1 ∧ Hid (MC wr w.heap.size (l.take k) ∧ (∀ i, wr.frozen? ⟨w.heap.size, i, none⟩ = false) ∧ Below w.heap.size w wr)) (fun i _ => l.length - (intOf i).toNat)
  case atStart => exact ⟨0, rfl, by omega, q1, HQ.out.2.1, HQ.out.2.2, HQ.out.1⟩
  case round =>
    obtain ⟨k, rfl, hk, hsz, HI⟩ := hrel
    by_cases hlt : k < l.length
    · obtain ⟨b, off, rfl, hb, hc⟩ := Hs.out.atInt hlt
      have e1 := (HI.out.2.2.cell (p := ⟨b, off + k, none⟩) hb).trans (hc k hlt)
      have ht := hid (take_snoc l k hlt)
      obtain ⟨x, hx⟩ : ∃ x, l[k] = x := ⟨_, rfl⟩
      rw [hx] at e1 ht
      clear hc hx
      by_cases hm : dsecB x = true
      · obtain ⟨n, rfl, hn⟩ := dsecB_some hm
        have hnI : (n : Int) < 86400 := by omega
        have e2 := HI.out.1 n hn
        have e3 := HI.out.2.1 n
        have done : MC (wr.setCell ⟨w.heap.size, n, none⟩ (.bool true)) w.heap.size (l.take (k + 1)) ∧ (∀ i, (wr.setCell ⟨w.heap.size, n, none⟩ (.bool true)).frozen? ⟨w.heap.size, i, none⟩ = false) ∧ Below w.heap.size w (wr.setCell ⟨w.heap.size, n, none⟩ (.bool true)) := by
          obtain ⟨d1, d2, d3⟩ := HI.out
          refine ⟨fun j hj => ?_, fun i => by simp [go_sem, d2 i], below_set d3 (Nat.le_refl _)⟩
          rw [ht.out, memD_in _ _ _]
          by_cases e : j = n
          · subst e; simp [go_sem, d1 j hj]
          · simp [go_sem, d1 j hj, e]
        have Done := hid done
        have hnD : decide (n < 86400) = true := decide_eq_true hn
        have Hn := hid hn
        clear done hm hn
        go_wp2
        obtain ⟨d1, d2, d3⟩ := Done.out
        exact ⟨⟨k + 1, by go_num, by omega, by simpa [go_sem] using hsz, d1, d2, d3⟩, by simp [intOf]; omega⟩
      · have hm' : dsecB x = false := by simpa using hm
        have he := hid (fun j hj => memD_out (l.take k) x hm' j hj)
        have hI' : Hid (MC wr w.heap.size (l.take (k + 1))) := fun j hj => by rw [ht.out, he.out j hj]; exact HI.out.1 j hj
        by_cases h0 : 0 ≤ x
        · have h1 : ¬ x < 86400 := fun h => by rw [dsecB, decide_eq_true h0, decide_eq_true h] at hm'; cases hm'
          clear hm hm'
          go_wp2
          exact ⟨⟨k + 1, by go_num, by omega, hsz, hI'.out, HI.out.2⟩, by simp [intOf]; omega⟩
        · clear hm hm'
          go_wp2
          exact ⟨⟨k + 1, by go_num, by omega, hsz, hI'.out, HI.out.2⟩, by simp [intOf]; omega⟩
    · have hke : l.take k = l := List.take_of_length_le (by omega)
      rw [hke] at HI
      clear hke
      go_wp2_with fail
      go_loopw [5, 6] (fun v i wq => ∃ (n m cap : Nat) (a : Option Addr), i = .int .i64 n ∧ Hid (n ≤ 86400) ∧ v = .slice a m cap ∧ Hid (m = (sel (memD l) n).length ∧ m ≤ n) ∧ Hid (wq.ownsRow (w.heap.size + 1) 3 1 (.slice a m cap) m (ints (sel (memD l) n))) ∧ Hid (MC wq w.heap.size l ∧ Below w.heap.size w wq ∧ w.heap.size + 1 ≤ wq.heap.size)) (fun _ i _ => (86400 - intOf i).toNat)
      case atStart => exact ⟨0, 0, 0, none, rfl, Nat.zero_le _, rfl, ⟨rfl, Nat.le_refl _⟩, World.ownsRow_nil _ _ _ _, HI.out.1, HI.out.2.2, by omega⟩
      case round =>
        clear hsz HI hk hlt
        obtain ⟨n, m, cap', a', rfl, hn, rfl, hme, hown, hbx⟩ := hrel
        by_cases hlt : (n : Int) < 86400
        · have hn' : n < 86400 := by omega
          have e1 := hbx.out.1 n hn'
          have hnD : decide (n < 86400) = true := decide_eq_true hn'
          have hm : (m : Int) < 87000 := by have := hme.out.2; omega
          have Hn' := hid hn'
          clear hn'
          by_cases hb : memD l n = true
          · have Hy := hid (sel_yes (p := memD l) hb)
            rw [hb] at e1
            clear hb
            go_wp2_with (at_builtin; refine app1 eInt (.tmp 37) (.tmp 39) rfl rfl rfl rfl rfl hown.out rfl (by omega) (by omega) hbx.out.2.2 ?_)
            intro a2 cap2 w2 hown2 hg2 hb2 hf2
            rw [← ints_one, ← ints_append, ← Hy.out] at hown2
            have Hown2 := hid hown2
            have hbx2 : Hid (MC w2 w.heap.size l ∧ Below w.heap.size w w2 ∧ w.heap.size + 1 ≤ w2.heap.size) :=
              ⟨hbx.out.1.below hb2 (by omega), hbx.out.2.1.trans (hb2.mono (by omega)), Nat.le_trans hbx.out.2.2 hb2.size⟩
            clear hown2 hg2 hb2 hf2
            go_wp2
            exact ⟨⟨n + 1, m + 1, cap2, a2, by go_num, Hn'.out, rfl, ⟨by rw [Hy.out, List.length_append, ← hme.out.1]; rfl, by have := hme.out.2; omega⟩, Hown2.out, hbx2.out⟩, by simp [intOf]; omega⟩
          · have hb' : memD l n = false := by simpa using hb
            have Hy := hid (sel_no (p := memD l) hb')
            rw [hb'] at e1
            clear hb hb'
            go_wp2
            exact ⟨⟨n + 1, m, cap', a', by go_num, Hn'.out, rfl, ⟨by rw [Hy.out]; exact hme.out.1, by have := hme.out.2; omega⟩, by rw [Hy.out]; exact hown.out, hbx.out⟩, by simp [intOf]; omega⟩
        · have hnn : n = 86400 := by have := hn.out; omega
          have hown' := hown.out
          have hm' := hme.out.1
          rw [hnn] at hown' hm'
          have Hown := hid hown'
          have Hm := hid hm'
          clear hnn hown' hm'
          go_wp2
          go_ret
          exact ⟨_, rfl, by have := Hm.out; rw [show (secL (memD l)).length = m from Hm.out.symm]; exact owns_base Hown.out (by omega), hbx.out.2.1⟩
end Go.Proofs.YtchceegpbfecaaaDoor

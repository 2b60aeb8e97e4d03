/-
  What cover.List computes: the numbers of pieces, one piece behind the other.
-/
import Derived.Test.YtdggflkkojmabaaCovList
namespace Go.Proofs.Ytdggflkkojmabaa
open Go.RowKit
set_option linter.unusedVariables false

def pcells (p : Int × Int × Int) : List Int := cells p.1 p.2.1 p.2.2
def pall (l : List (Int × Int × Int)) : List Int := l.flatMap pcells
theorem pall_succ (l : List (Int × Int × Int)) (k : Nat) (hk : k < l.length) : pall (l.take (k + 1)) = pall (l.take k) ++ pcells l[k] := by
  rw [take_snoc l k hk]; simp only [pall, List.flatMap_append, List.flatMap_cons, List.flatMap_nil, List.append_nil]
theorem pcells_le (p : Int × Int × Int) : (pcells p).length ≤ 10000 := by
  have := clen_bd p.1 p.2.1 p.2.2
  simp only [pcells, cells, run_length]; omega
theorem pall_le (l : List (Int × Int × Int)) : (pall l).length ≤ l.length * 10000 := by
  induction l with
  | nil => simp [pall]
  | cons x l ih => have := pcells_le x; simp only [pall, List.flatMap_cons, List.length_append, List.length_cons] at ih ⊢; omega

set_option maxHeartbeats 400000 in
theorem CList_any (a : Option Addr) (cap : Nat) (l : List (Int × Int × Int)) (w : World) (hl : l.length ≤ 100000) (hs : Sl w a (trips l)) :
    Calls Try.prog 9 #[.slice a l.length cap] w fun e w' =>
      ∃ v, e = .returned v ∧ w'.ownsRow w.heap.size 3 1 v (pall l).length (ints (pall l)) ∧ Below w.heap.size w w' := by
  go_enter Try.func9, Try.ntmps9
  go_wp2
  go_loopw [3, 9] (fun v i wr => ∃ (k : Nat) (a' : Option Addr) (n' cap' : Nat), i = .int .i64 k ∧ k ≤ l.length ∧ v = .slice a' n' cap' ∧
      wr.ownsRow w.heap.size 3 1 (.slice a' n' cap') n' (ints (pall (l.take k))) ∧ n' ≤ k * 10000 ∧ Below w.heap.size w wr) (fun _ i _ => l.length - (intOf i).toNat)
  case atStart => exact ⟨0, none, 0, 0, rfl, by omega, rfl, by simpa [pall, ints] using World.ownsRow_nil _ _ _ _, by omega, Below.refl _ _⟩
  case round =>
    obtain ⟨wo, rfl⟩ : ∃ wo : World, wo = wr := ⟨_, rfl⟩
    obtain ⟨k, a', n', cap', rfl, hk, rfl, hown, hn', hB⟩ := hrel
    by_cases hlt : k < l.length
    · obtain ⟨b, off, rfl, hb, hc⟩ := hs.atTrip hlt
      obtain ⟨hc1, hc2, hc3⟩ := hc k hlt
      obtain ⟨⟨f, t, s⟩, hp⟩ : ∃ p, p = l[k] := ⟨_, rfl⟩
      have hsucc := hid (pall_succ l k hlt)
      rw [← hp] at hc1 hc2 hc3 hsucc
      have hbd := clen_bd f t s
      have hle := pcells_le (f, t, s)
      have e1 := (hB.cell (p := ⟨b, off + k * 3, none⟩) hb).trans hc1
      have e2 := (hB.cell (p := ⟨b, off + k * 3 + 1, none⟩) hb).trans hc2
      have e3 := (hB.cell (p := ⟨b, off + k * 3 + 2, none⟩) hb).trans hc3
      have hsz := hB.size
      clear hc hc1 hc2 hc3 hs hp
      simp only [] at e1 e2 e3
      go_wp2_with (go_at_call 7; refine (Len_any _ _ _ _).mono ?_; rintro e w1 ⟨rfl, hb1⟩)
      obtain ⟨W0, hW0⟩ : ∃ W0, wo.alloc (.cells #[.int .i64 f, .int .i64 t, .int .i64 s] 28) = W0 := ⟨_, rfl⟩
      have hW1 : Below wo.heap.size wo W0 := by rw [← hW0]; exact (Below.refl _ _).alloc (Nat.le_refl _) _
      have hWs : W0.heap.size = wo.heap.size + 1 := by rw [← hW0]; simp
      have hWc : W0.cell? ⟨wo.heap.size, 0, none⟩ = some (.int .i64 f) ∧ W0.cell? ⟨wo.heap.size, 2, none⟩ = some (.int .i64 s) := by rw [← hW0]; simp
      rw [hW0] at hb1
      rw [hWs] at hb1
      have hB1 : Below w.heap.size w w1 := hB.trans ((hW1.mono hsz).trans (hb1.mono (by omega)))
      have hc0 : w1.cell? ⟨wo.heap.size, 0, none⟩ = some (.int .i64 f) := (hb1.cell (p := ⟨wo.heap.size, 0, none⟩) (by simp)).trans hWc.1
      have hc2 : w1.cell? ⟨wo.heap.size, 2, none⟩ = some (.int .i64 s) := (hb1.cell (p := ⟨wo.heap.size, 2, none⟩) (by simp)).trans hWc.2
      have hs1 : wo.heap.size + 1 ≤ w1.heap.size := by have := hb1.size; omega
      have hown1 : w1.ownsRow w.heap.size 3 1 (.slice a' n' cap') n' (ints (pall (l.take k))) := owns_below (owns_below hown hW1 (Nat.le_refl _)) hb1 (by omega)
      have hne : ∀ q, Value.ownBlock (.slice a' n' cap') = some q → q ≠ wo.heap.size := fun q hq => by have := (hown.lt q hq).2; omega
      clear e1 e2 e3 hW0 hWc hb1 hW1
      go_loopw [3, 15] (fun v i wq => ∃ (j : Nat) (a2 : Option Addr) (n2 c2 : Nat), i = .int .i64 j ∧ (j : Int) ≤ clen f t s ∧ v = .slice a2 n2 c2 ∧
          wq.ownsRow w.heap.size 3 1 (.slice a2 n2 c2) n2 (ints (pall (l.take k) ++ run f s j)) ∧ n2 = n' + j ∧ Below w.heap.size w wq ∧ wo.heap.size + 1 ≤ wq.heap.size ∧
          wq.cell? ⟨wo.heap.size, 0, none⟩ = some (.int .i64 f) ∧ wq.cell? ⟨wo.heap.size, 2, none⟩ = some (.int .i64 s) ∧ (∀ q, Value.ownBlock (.slice a2 n2 c2) = some q → q ≠ wo.heap.size)) (fun _ i _ => (clen f t s - intOf i).toNat)
      case atStart => exact ⟨0, a', n', cap', rfl, by simp; omega, rfl, by simpa [run] using hown1, by omega, hB1, hs1, hc0, hc2, hne⟩
      case round =>
        obtain ⟨j, a2, n2, c2, rfl, hj, rfl, hown2, hn2, hB2, hs2, hd0, hd2, hne2⟩ := hrel
        by_cases hjl : (j : Int) < clen f t s
        · have hcl : clen f t s = (t - f) / s + 1 := by
            unfold clen at hjl ⊢; split
            · rename_i h; rw [if_pos h] at hjl; omega
            · rfl
          have hin : ¬ (f < 0 ∨ t < f ∨ 9999 < t ∨ s < 1 ∨ (t - f) % s ≠ 0) := by
            intro h; unfold clen at hjl; rw [if_pos h] at hjl; omega
          have hmul : 0 ≤ (j : Int) * s ∧ (j : Int) * s ≤ 9999 := by
            refine ⟨Int.mul_nonneg (by omega) (by omega), ?_⟩
            have h1 : (j : Int) ≤ (t - f) / s := by omega
            have h2 := Int.mul_le_mul_of_nonneg_right h1 (show (0 : Int) ≤ s by omega)
            have h3 := Int.ediv_mul_le (t - f) (show s ≠ 0 by omega)
            omega
          obtain ⟨hm1, hm2⟩ := hmul
          have hf0 : 0 ≤ f ∧ f ≤ 9999 := by omega
          obtain ⟨hf1, hf2⟩ := hf0
          have hrs := hid (run_succ f s j)
          clear hin hcl
          obtain ⟨x, hx⟩ : ∃ x, (j : Int) * s = x := ⟨_, rfl⟩
          rw [hx] at hm1 hm2
          have Hx := hid hx
          have HN := hid hn2
          have hn3 : n2 + 1 ≤ 1000000000000 := by omega
          clear hn2
          have hwx : wrap64 ((j : Int) * s) = x := by rw [hx]; exact w64 x (by omega)
          clear hx
          go_wp2_with (at_builtin; refine app1 eInt (.tmp 18) (.tmp 26) rfl rfl rfl rfl rfl hown2 rfl hn3 (by omega) (by omega) ?_)
          intro a3 c3 w3 hown3 hg3 hb3 hf3
          have hd0' := grown_cell hg3 hd0 (fun h => hne2 _ h rfl)
          have hd2' := grown_cell hg3 hd2 (fun h => hne2 _ h rfl)
          have hne3 : ∀ q, Value.ownBlock (.slice a3 (n2 + 1) c3) = some q → q ≠ wo.heap.size := fun q hq => by
            rcases hf3 q hq with h | h
            · exact hne2 q h
            · omega
          have hs3 := hb3.size
          have hB3 := hB2.trans hb3
          have hown4 : w3.ownsRow w.heap.size 3 1 (.slice a3 (n2 + 1) c3) (n2 + 1) (ints (pall (l.take k) ++ run f s (j + 1))) := by
            rw [hrs.out, ← List.append_assoc, ints_append _ [_], Hx.out, ints_one]; exact hown3
          have hlast : wo.heap.size + 1 ≤ w3.heap.size := by omega
          clear hd0 hd2 hown2 hown3 hg3 hb3 hf3 hB2 hne2
          go_wp2
          exact ⟨⟨j + 1, a3, n2 + 1, c3, by go_num, by omega, rfl, hown4, by have := HN.out; omega, hB3, hlast, hd0', hd2', hne3⟩, by simp [intOf]; omega⟩
        · have hje : j = (clen f t s).toNat := by omega
          have Hje := hid hje
          have HN := hid hn2
          have hn3 : n2 ≤ (k + 1) * 10000 := by omega
          clear hje hn2
          go_wp2
          refine ⟨⟨k + 1, a2, n2, c2, by go_num, by omega, rfl, ?_, hn3, hB2⟩, by simp [intOf]; omega⟩
          rw [hsucc.out]
          have : pcells (f, t, s) = run f s j := by rw [pcells, cells, Hje.out]
          rw [this]
          exact hown2
    · have hke : k = l.length := by omega
      have Hke := hid hke
      clear hke
      go_wp2
      go_ret
      have e : l.take k = l := by rw [Hke.out]; exact List.take_length
      rw [e] at hown
      have hnn : n' = (pall l).length := by have := hown.1; rw [ints_length] at this; omega
      subst hnn
      exact ⟨_, rfl, hown, hB⟩
end Go.Proofs.Ytdggflkkojmabaa

/-
  ferialaw03.CoverList answers true for every list of pieces.
-/
import Derived.Test.YtdggflkkojmabaaCovLives
namespace Go.Proofs.Ytdggflkkojmabaa
open Go.RowKit
set_option linter.unusedVariables false

theorem Ints_yes (a b : Option Addr) (n m cn cm : Nat) (x : List Int) (w : World) (hn : n = x.length) (hm : m = x.length)
   (hxl : x.length ≤ 9223372036854775807) (hx : Sl w a (ints x)) (hy : Sl w b (ints x)) :
    Calls Try.prog 8 #[.slice a n cn, .slice b m cm] w fun e w' => e = .returned (.bool true) ∧ Below w.heap.size w w' := by
  subst hn; subst hm
  exact (Ints_any a b cn cm x x w hxl hxl hx hy).mono fun e w' ⟨h, hb⟩ => ⟨by rw [h]; simp, hb⟩

set_option maxHeartbeats 800000 in
theorem CoverList_walk (a : Option Addr) (cap : Nat) (l : List (Int × Int × Int)) (w : World) (hl : l.length ≤ 9223372036854775807) (hs : Sl w a (trips l)) (hwf : ∀ p ∈ l, p.1 ≤ 9223372036854775807) :
    Calls Try.prog 3 #[.slice a l.length cap] w fun e w' => e = .returned (.bool true) ∧ Below w.heap.size w w' := by
  by_cases h20 : 20 < l.length
  · go_enter Try.func3, Try.ntmps3
    go_wp2_with (go_at_call 5; refine (lives03_any _).mono ?_; rintro e w1 ⟨rfl, hb1⟩)
    go_ret
    exact ⟨rfl, hb1⟩
  · go_enter Try.func3, Try.ntmps3
    go_wp2
    go_loopw [3, 4] (fun v i wr => ∃ (k : Nat) (a' : Option Addr) (n' cap' : Nat), i = .int .i64 k ∧ k ≤ l.length ∧ v = .slice a' n' cap' ∧
      wr.ownsRow w.heap.size 3 1 (.slice a' n' cap') n' (ints (pall (l.take k))) ∧ n' ≤ k * 10000 ∧ Below w.heap.size w wr) (fun _ i _ => l.length - (intOf i).toNat)
    case atStart => exact ⟨0, none, 0, 0, rfl, by omega, rfl, by simpa [pall, ints] using World.ownsRow_nil _ _ _ _, by omega, Below.refl _ _⟩
    case round =>
      obtain ⟨k, a', n', cap', rfl, hk, rfl, hown, hn', hB⟩ := hrel
      by_cases hlt : k < l.length
      · obtain ⟨b, off, rfl, hb, hc⟩ := hs.atTrip hlt
        obtain ⟨hc1, hc2, hc3⟩ := hc k hlt
        obtain ⟨⟨f, t, s⟩, hp⟩ : ∃ p, p = l[k] := ⟨_, rfl⟩
        have hfw := hwf (f, t, s) (by rw [hp]; simp)
        have hsucc := hid (pall_succ l k hlt)
        rw [← hp] at hc1 hc2 hc3 hsucc
        have hle := pcells_le (f, t, s)
        have e1 := (hB.cell (p := ⟨b, off + k * 3, none⟩) hb).trans hc1
        have e2 := (hB.cell (p := ⟨b, off + k * 3 + 1, none⟩) hb).trans hc2
        have e3 := (hB.cell (p := ⟨b, off + k * 3 + 2, none⟩) hb).trans hc3
        have hsz := hB.size
        clear hc hc1 hc2 hc3 hs hp
        simp only [] at e1 e2 e3 hfw
        go_wp2_with fail
        refine (own_ret (RList_any _ _ _ _ hfw)).mono ?_
        rintro e w1 ⟨a1, nn, c1, rfl, Hnn, hsl1, hown1, hb1⟩
        have hnl : nn ≤ 10000 := by rw [Hnn.out]; exact hle
        have hlen : (clen f t s != (nn : Int)) = false := by
          have := clen_bd f t s
          have h2 := Hnn.out
          rw [cells, run_length] at h2
          simp; omega
        have hB1 := hB.trans (hb1.mono hsz)
        have e1' := (hb1.cell (p := ⟨b, off + k * 3, none⟩) (by simp; omega)).trans e1
        have e2' := (hb1.cell (p := ⟨b, off + k * 3 + 1, none⟩) (by simp; omega)).trans e2
        have e3' := (hb1.cell (p := ⟨b, off + k * 3 + 2, none⟩) (by simp; omega)).trans e3
        have hown2 := owns_below hown hb1 (Nat.le_refl _)
        have hsz1 := hB1.size
        clear e1 e2 e3 hown hb1 hle hB
        go_wp2_with fail
        refine (Len_any _ _ _ _).mono ?_
        rintro e w2 ⟨rfl, hb2⟩
        have hB2 := hB1.trans (hb2.mono hsz1)
        have hown3 := owns_below hown2 hb2 (Nat.le_refl _)
        have hsl2 := hsl1.below hb2
        have hsz2 := hB2.size
        have Hsl := hid hsl2
        have Hnone := hid (owns_none hown1)
        have Hl1 : Hid ((ints (cells f t s)).length = nn * 1) := by rw [Hnn.out, ints_length]; exact (Nat.mul_one _).symm
        clear hown1 hown2 hb2 hB1 hsl1 hsl2 e1' e2' e3'
        go_wp2_with (at_builtin; refine appN eInt (.tmp 29) (.tmp 30) rfl rfl rfl rfl hown3 Hl1.out Hsl.out Hnone.out (ints_oneCell _ _) (by omega) (by omega) (by omega) ?_)
        intro a3 c3 w3 hown4 hg3 hb3 hf3
        have hB3 := hB2.trans hb3
        have hown5 : w3.ownsRow w.heap.size 3 1 (.slice a3 (n' + nn) c3) (n' + nn) (ints (pall (l.take (k + 1)))) := by
          rw [hsucc.out, ints_append]; exact hown4
        clear hown3 hown4 hg3 hb3 hf3 hB2
        go_wp2
        exact ⟨⟨k + 1, a3, n' + nn, c3, by go_num, by omega, rfl, hown5, by omega, hB3⟩, by simp [intOf]; omega⟩
      · have hke : k = l.length := by omega
        have Hke := hid hke
        have e : l.take k = l := by rw [hke]; exact List.take_length
        rw [e] at hown
        have hnn : Hid (n' = (pall l).length) := by have := hown.1; rw [ints_length] at this; show n' = _; omega
        have hsl1 := owns_sl hown
        have hlen := pall_le l
        have hsz := hB.size
        clear hke e hown
        go_wp2_with fail
        refine (own_ret (CList_any a cap l _ (by omega) (hs.below hB))).mono ?_
        rintro e w1 ⟨a1, n1, c1, rfl, Hn1, hsl2, hown1, hb1⟩
        have hB1 := hB.trans (hb1.mono hsz)
        have hsz1 := hB1.size
        have hsl3 := hsl1.below hb1
        clear hown1
        go_wp2_with fail
        refine (Ints_yes _ _ _ _ _ _ (pall l) _ Hn1.out hnn.out (by omega) hsl2 hsl3).mono ?_
        rintro e w2 ⟨rfl, hb2⟩
        have hB2 := hB1.trans (hb2.mono hsz1)
        have hsz2 := hB2.size
        clear hsl1 hsl2 hsl3 hb1 hb2
        go_wp2_with (go_at_call 5; refine (lives03_any _).mono ?_; rintro e w3 ⟨rfl, hb3⟩)
        go_ret
        exact ⟨rfl, hB2.trans (hb3.mono hsz2)⟩
end Go.Proofs.Ytdggflkkojmabaa

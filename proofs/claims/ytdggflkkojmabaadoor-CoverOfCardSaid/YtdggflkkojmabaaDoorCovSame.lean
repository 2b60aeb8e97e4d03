/-
  ferialaw03.same of the same pieces, and ferialaw03.CoverOf.
-/
import Derived.Test.YtdggflkkojmabaaDoorCovROf
import Derived.Test.YtdggflkkojmabaaDoorCovMask
namespace Go.Proofs.YtdggflkkojmabaaDoor.Cov
open Go.RowKit
set_option linter.unusedVariables false

set_option maxHeartbeats 1600000 in
theorem Same_any (a b : Option Addr) (c d : Nat) (ps : List (Int × Int × Int)) (w : World) (hl : ps.length ≤ 1000000000) (ha : Sl w a (trips ps)) (hb : Sl w b (trips ps)) :
    Calls Tryd.prog 46 #[.slice a ps.length c, .slice b ps.length d] w fun e w' => e = .returned (.bool true) ∧ Below w.heap.size w w' := by
  have Ha := hid ha
  have Hb := hid hb
  have hlI : (ps.length : Int) ≤ 1000000000 := by omega
  clear ha hb hl
  go_enter Tryd.func46, Tryd.ntmps46
  go_wp2
  go_loopw [5] (fun i wr => ∃ k : Nat, i = .int .i64 k ∧ k ≤ ps.length ∧ Below w.heap.size w wr) (fun i _ => ps.length - (intOf i).toNat)
  case atStart => exact ⟨0, rfl, by omega, Below.refl _ _⟩
  case round =>
    obtain ⟨k, rfl, hk, hB⟩ := hrel
    by_cases hlt : k < ps.length
    · obtain ⟨ba, oa, rfl, hba, hca⟩ := Ha.out.atTrip hlt
      obtain ⟨bb, ob, rfl, hbb, hcb⟩ := Hb.out.atTrip hlt
      obtain ⟨a0, a1, a2⟩ := hca k hlt
      obtain ⟨b0, b1, b2⟩ := hcb k hlt
      obtain ⟨x, hx⟩ : ∃ x, ps[k] = x := ⟨_, rfl⟩
      rw [hx] at a0 a1 a2 b0 b1 b2
      have a0' := (hB.cell (p := ⟨ba, _, none⟩) hba).trans a0
      have a1' := (hB.cell (p := ⟨ba, _, none⟩) hba).trans a1
      have a2' := (hB.cell (p := ⟨ba, _, none⟩) hba).trans a2
      have b0' := (hB.cell (p := ⟨bb, _, none⟩) hbb).trans b0
      have b1' := (hB.cell (p := ⟨bb, _, none⟩) hbb).trans b1
      have b2' := (hB.cell (p := ⟨bb, _, none⟩) hbb).trans b2
      clear hca hcb hx a0 a1 a2 b0 b1 b2
      go_wp2
      go_quiet (fail)
      go_wp2
      exact ⟨⟨k + 1, by go_num, by omega, below_drewN hB _⟩, by simp [intOf]; omega⟩
    · go_wp2
      go_ret
      exact ⟨rfl, hB⟩
end Go.Proofs.YtdggflkkojmabaaDoor.Cov

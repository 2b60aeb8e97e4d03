/-
  feriaref15.Has, Lacks and Both.
-/
import Derived.Test.YtchceegpbfecaaaDoorDiscRef
namespace Go.Proofs.YtchceegpbfecaaaDoor
open Go.RowKit
set_option linter.unusedVariables false

set_option maxHeartbeats 800000 in
theorem RHas15_any (a : Option Addr) (cap : Nat) (l : List Int) (x : Int) (w : World) (hl : l.length ≤ 9223372036854775807) (hs : Sl w a (ints l)) :
    Calls Tryd.prog 15 #[.slice a l.length cap, .int .i64 x] w fun e w' => e = .returned (.bool (decide (x ∈ l))) ∧ w = w' := by
  have Hs := hid hs
  have hlI : (l.length : Int) ≤ 9223372036854775807 := by omega
  clear hs hl
  go_enter Tryd.func15, Tryd.ntmps15
  go_wp2
  go_loopw [5] (fun i wr => ∃ k : Nat, i = .int .i64 k ∧ k ≤ l.length ∧ Hid (¬ x ∈ l.take k) ∧ wr = w) (fun i _ => l.length - (intOf i).toNat)
  case atStart => exact ⟨0, rfl, by omega, by show ¬ _; simp, rfl⟩
  case round =>
    obtain ⟨k, rfl, hk, hI, rfl⟩ := hrel
    by_cases hlt : k < l.length
    · obtain ⟨b, off, rfl, hb, hc⟩ := Hs.out.atInt hlt
      have e1 := hc k hlt
      have ht := hid (take_snoc l k hlt)
      have hmem := hid (List.getElem_mem hlt)
      obtain ⟨y, hy⟩ : ∃ y, l[k] = y := ⟨_, rfl⟩
      rw [hy] at e1 ht hmem
      clear hc hy
      by_cases he : y = x
      · have hb2 : (y == x) = true := by simpa using he
        have hr : Hid (decide (x ∈ l) = true) := decide_eq_true (he ▸ hmem.out)
        clear he
        go_wp2
        go_ret
        exact ⟨by rw [hr.out]; rfl, by trivial⟩
      · have hb2 : (y == x) = false := by simpa using he
        have hr : Hid (¬ x ∈ l.take (k + 1)) := by
          show ¬ _
          rw [ht.out]
          simp only [List.mem_append, List.mem_singleton]
          rintro (h | h)
          · exact hI.out h
          · exact he h.symm
        clear he
        go_wp2
        exact ⟨⟨k + 1, by go_num, by omega, hr.out, by trivial⟩, by simp [intOf]; omega⟩
    · have hke : l.take k = l := List.take_of_length_le (by omega)
      rw [hke] at hI
      have hr : Hid (decide (x ∈ l) = false) := decide_eq_false hI.out
      clear hke
      go_wp2
      go_ret
      exact ⟨by rw [hr.out]; rfl, by trivial⟩

/-- the first of a list that another one hasn't -/
def lackI : List Int → List Int → Int
  | [], _ => -1
  | x :: a, b => if x ∈ b then lackI a b else x
end Go.Proofs.YtchceegpbfecaaaDoor

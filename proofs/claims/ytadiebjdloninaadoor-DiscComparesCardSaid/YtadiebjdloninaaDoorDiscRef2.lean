/-
  feriaref15.Has, Lacks and Both.
-/
import Derived.Test.YtadiebjdloninaaDoorDiscRef
namespace Go.Proofs.YtadiebjdloninaaDoor
open Go.RowKit
set_option linter.unusedVariables false

set_option maxHeartbeats 800000 in
theorem RHas15_any (a : Option Addr) (cap : Nat) (l : List Int) (x : Int) (w : World) (hl : l.length ≤ 9223372036854775807) (hs : Sl w a (ints l)) :
    Calls Tryd.prog 20 #[.slice a l.length cap, .int .i64 x] w fun e w' => e = .returned (.bool (decide (x ∈ l))) ∧ w = w' := by
  have Hs := hid hs
  have hlI : (l.length : Int) ≤ 9223372036854775807 := by omega
  clear hs hl
  go_enter Tryd.func20, Tryd.ntmps20
  go_wp2
  go_loopw [5] (fun i wr => ∃ k : Nat, i = .int .i64 k ∧ k ≤ l.length ∧ Hid (¬ x ∈ l.take k) ∧ wr = w) (fun i _ => l.length - (intOf i).toNat)
  case atStart => exact ⟨0, rfl, by omega, by show ¬ _; simp, rfl⟩
  case round =>
    obtain ⟨k, rfl, hk, hI, rfl⟩ := hrel
    by_cases hlt : k < l.length
    · obtain ⟨b, off, rfl, hb, hc⟩ := Hs.out.atInt hlt
      have e1 := hc k hlt
      have ht := hid (take_snoc l k hlt)
      have hmem := hid (List.getElem_mem hlt)
      obtain ⟨y, hy⟩ : ∃ y, l[k] = y := ⟨_, rfl⟩
      rw [hy] at e1 ht hmem
      clear hc hy
      by_cases he : y = x
      · have hb2 : (y == x) = true := by simpa using he
        have hr : Hid (decide (x ∈ l) = true) := decide_eq_true (he ▸ hmem.out)
        clear he
        go_wp2
        go_ret
        exact ⟨by rw [hr.out]; rfl, by trivial⟩
      · have hb2 : (y == x) = false := by simpa using he
        have hr : Hid (¬ x ∈ l.take (k + 1)) := by
          show ¬ _
          rw [ht.out]
          simp only [List.mem_append, List.mem_singleton]
          rintro (h | h)
          · exact hI.out h
          · exact he h.symm
        clear he
        go_wp2
        exact ⟨⟨k + 1, by go_num, by omega, hr.out, by trivial⟩, by simp [intOf]; omega⟩
    · have hke : l.take k = l := List.take_of_length_le (by omega)
      rw [hke] at hI
      have hr : Hid (decide (x ∈ l) = false) := decide_eq_false hI.out
      clear hke
      go_wp2
      go_ret
      exact ⟨by rw [hr.out]; rfl, by trivial⟩

/-- the first of a list that another one hasn't -/
def lackI : List Int → List Int → Int
  | [], _ => -1
  | x :: a, b => if x ∈ b then lackI a b else x
set_option maxHeartbeats 800000 in
theorem RLacks15_any (a b : Option Addr) (cap cap2 : Nat) (l m : List Int) (w : World) (hl : l.length ≤ 9223372036854775807) (hs : Sl w a (ints l)) (hm : m.length ≤ 9223372036854775807) (hs2 : Sl w b (ints m)) :
    Calls Tryd.prog 7 #[.slice a l.length cap, .slice b m.length cap2] w fun e w' => e = .returned (.int .i64 (lackI l m)) ∧ w = w' := by
  have Hs := hid hs
  have c1 := hid (fun x => RHas15_any b cap2 m x w hm hs2)
  have hlI : (l.length : Int) ≤ 9223372036854775807 := by omega
  clear hs hl hm hs2
  go_enter Tryd.func7, Tryd.ntmps7
  go_wp2
  go_loopw [5] (fun i wr => ∃ k : Nat, i = .int .i64 k ∧ k ≤ l.length ∧ Hid (lackI l m = lackI (l.drop k) m) ∧ wr = w) (fun i _ => l.length - (intOf i).toNat)
  case atStart => exact ⟨0, rfl, by omega, rfl, rfl⟩
  case round =>
    obtain ⟨k, rfl, hk, hI, rfl⟩ := hrel
    by_cases hlt : k < l.length
    · obtain ⟨b, off, rfl, hb, hc⟩ := Hs.out.atInt hlt
      have e1 := hc k hlt
      have ht := hid (List.drop_eq_getElem_cons hlt)
      obtain ⟨y, hy⟩ : ∃ y, l[k] = y := ⟨_, rfl⟩
      rw [hy] at e1 ht
      clear hc hy
      by_cases he : y ∈ m
      · have d1 := hid (c1.out y)
        rw [decide_eq_true he] at d1
        have hr : Hid (lackI l m = lackI (l.drop (k + 1)) m) := by show _ = _; rw [hI.out, ht.out, lackI, if_pos he]
        clear he
        go_wp2_with fail
        refine d1.out.mono ?_
        rintro e w' ⟨rfl, rfl⟩
        go_wp2
        exact ⟨⟨k + 1, by go_num, by omega, hr.out, by trivial⟩, by simp [intOf]; omega⟩
      · have d1 := hid (c1.out y)
        rw [decide_eq_false he] at d1
        have hr : Hid (lackI l m = y) := by show _ = _; rw [hI.out, ht.out, lackI, if_neg he]
        clear he
        go_wp2_with fail
        refine d1.out.mono ?_
        rintro e w' ⟨rfl, rfl⟩
        go_wp2
        go_ret
        exact ⟨by rw [hr.out]; rfl, by trivial⟩
    · have hr : Hid (lackI l m = -1) := by show _ = _; rw [hI.out, List.drop_of_length_le (by omega)]; rfl
      go_wp2
      go_ret
      exact ⟨by rw [hr.out]; rfl, by trivial⟩
end Go.Proofs.YtadiebjdloninaaDoor

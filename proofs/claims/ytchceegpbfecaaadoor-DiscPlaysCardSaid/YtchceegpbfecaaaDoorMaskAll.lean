/-
  mask.All makes a function that has captured the box of what is in all of the masks.
-/
import Derived.Test.YtchceegpbfecaaaDoorMaskNextLaw
import Derived.Test.YtchceegpbfecaaaDoorOpen
namespace Go.Proofs.YtchceegpbfecaaaDoor
open Go.RowKit
set_option linter.unusedVariables false

theorem u64s_length (l : List Nat) : (u64s l).length = l.length := by simp [u64s]
theorem Sl.atU64 {w : World} {a : Option Addr} {l : List Nat} (h : Sl w a (u64s l)) {k : Nat} (hk : k < l.length) :
    ∃ b off, a = some ⟨b, off, none⟩ ∧ b < w.heap.size ∧ ∀ j (h : j < l.length), w.cell? ⟨b, off + j, none⟩ = some (.int .u64 l[j]) := by
  obtain ⟨b, off, rfl, hlt, hc⟩ := Sl.at h (k := k) (by rw [u64s_length]; exact hk)
  refine ⟨b, off, rfl, hlt, fun j hj => ?_⟩
  rw [hc j (by rw [u64s_length]; exact hj)]
  simp [u64s]

/-- the numbers that are in all of l, of those of m -/
def foldM (m : Nat) (l : List Nat) : Nat := l.foldl (fun x y => x &&& y) m
def andM (l : List Nat) : Nat := if l.length = 0 then 0 else foldM 18446744073709551615 l
theorem foldM_lt {m : Nat} (hm : m < 18446744073709551616) : ∀ l : List Nat, foldM m l < 18446744073709551616 := by
  intro l
  induction l generalizing m with
  | nil => exact hm
  | cons x xs ih => exact ih (and_lt (b := x) hm)
theorem foldM_snoc (m : Nat) (l : List Nat) (k : Nat) (hk : k < l.length) : foldM m (l.take k) &&& l[k] = foldM m (l.take (k + 1)) := by
  rw [List.take_add_one, List.getElem?_eq_getElem hk, foldM, foldM, List.foldl_append]; rfl
theorem foldM_test (l : List Nat) (i : Nat) : ∀ m, (foldM m l).testBit i = (m.testBit i && l.all (fun x => x.testBit i)) := by
  induction l with
  | nil => intro m; simp [foldM]
  | cons x xs ih =>
    intro m
    show (foldM (m &&& x) xs).testBit i = _
    rw [ih, Nat.testBit_and, List.all_cons, Bool.and_assoc]
theorem ones_test (i : Nat) : (18446744073709551615 : Nat).testBit i = decide (i < 64) := by
  rw [show (18446744073709551615 : Nat) = 2 ^ 64 - 1 from rfl, Nat.testBit_two_pow_sub_one]

set_option maxHeartbeats 800000 in
theorem MAll_any (a : Option Addr) (cap : Nat) (l : List Nat) (w : World) (hl : l.length ≤ 9223372036854775807) (hs : Sl w a (u64s l)) (hb : ∀ x ∈ l, x < 18446744073709551616) :
    Calls Tryd.prog 27 #[.slice a l.length cap] w fun e w' => e = .returned (.func (.func 31) #[] #[.pointer (some ⟨w.heap.size, 0, none⟩)]) ∧
      w'.cell? ⟨w.heap.size, 0, none⟩ = some (.int .u64 (andM l)) ∧ Below w.heap.size w w' ∧ w.heap.size < w'.heap.size := by
  go_enter Tryd.func27, Tryd.ntmps27
  by_cases h0 : l.length = 0
  · have hr : Hid (andM l = 0) := if_pos h0
    go_wp2
    go_loopw [5, 11] (fun _ i wr => i = .int .i64 0 ∧ wr = w.alloc (.cells #[.int .u64 0] 43)) (fun _ _ _ => 0)
    case atStart => exact ⟨rfl, rfl⟩
    case round =>
      obtain ⟨rfl, rfl⟩ := hrel
      go_wp2
      go_ret
      refine ⟨rfl, ?_, below_new (Below.refl _ _) (Nat.le_refl _), by simp [go_sem]⟩
      rw [hr.out]; simp [go_sem]
  · have hr : Hid (andM l = foldM 18446744073709551615 l) := if_neg h0
    go_wp2
    go_loopw [5, 11] (fun _ i wr => ∃ k : Nat, i = .int .i64 k ∧ k ≤ l.length ∧ wr.cell? ⟨w.heap.size, 0, none⟩ = some (.int .u64 (foldM 18446744073709551615 (l.take k))) ∧ wr.frozen? ⟨w.heap.size, 0, none⟩ = false ∧ Below w.heap.size w wr ∧ w.heap.size < wr.heap.size) (fun _ i _ => l.length - (intOf i).toNat)
    case atStart => exact ⟨0, rfl, by omega, by simp [go_sem, foldM], by simp [go_sem], below_new (Below.refl _ _) (Nat.le_refl _), by simp [go_sem]⟩
    case round =>
      obtain ⟨k, rfl, hk, hbox, hfz, hB, hlt⟩ := hrel
      by_cases hkl : k < l.length
      · obtain ⟨b, off, rfl, hbk, hc⟩ := hs.atU64 hkl
        have e1 := (hB.cell (p := ⟨b, off + k, none⟩) hbk).trans (hc k hkl)
        have hf := hid (foldM_snoc 18446744073709551615 l k hkl)
        have hM := foldM_lt (m := 18446744073709551615) (by omega) (l.take k)
        have hx := hb l[k] (by simp)
        obtain ⟨x, hxe⟩ : ∃ x, l[k] = x := ⟨_, rfl⟩
        obtain ⟨M, hMe⟩ : ∃ M, foldM 18446744073709551615 (l.take k) = M := ⟨_, rfl⟩
        rw [hxe] at e1 hf hx
        rw [hMe] at hf hbox hM
        have hand := hid (bits_and hM hx)
        have hne : b ≠ w.heap.size := by omega
        clear hs hc hxe hMe hb
        go_wp2
        exact ⟨⟨k + 1, by go_num, by omega, by rw [← hf.out, hand.out]; simp [go_sem, hbox], by simp [go_sem, hfz], below_set hB (Nat.le_refl _), by simpa [go_sem] using hlt⟩, by simp [intOf]; omega⟩
      · have hke : l.take k = l := List.take_of_length_le (by omega)
        rw [hke] at hbox
        have Hke : Hid (k = l.length) := by show k = l.length; omega
        clear hke hb hs
        go_wp2
        go_ret
        exact ⟨rfl, by rw [hr.out]; exact hbox, hB, hlt⟩
end Go.Proofs.YtchceegpbfecaaaDoor

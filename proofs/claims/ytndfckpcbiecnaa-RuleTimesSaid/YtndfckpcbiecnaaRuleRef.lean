/-
  feriaref32: out, signs, list; rule.list.
-/
import Derived.Test.YtndfckpcbiecnaaRuleNth
namespace Go.Proofs.Ytndfckpcbiecnaa
open Go.RowKit
set_option linter.unusedVariables false

def listE (lo hi : Int) (l : List Int) : Int := if 64 < l.length then 5 else if outB lo hi l = true then 4 else 0
set_option maxHeartbeats 800000 in
theorem ROut_any (a : Option Addr) (cap : Nat) (l : List Int) (lo hi : Int) (w : World) (hl : l.length ≤ 9223372036854775807) (hs : Sl w a (ints l)) :
    Calls Try.prog 137 #[.slice a l.length cap, .int .i64 lo, .int .i64 hi] w fun e w' => e = .returned (.bool (outB lo hi l)) ∧ w = w' := by
  have Hs := hid hs
  have hlI : (l.length : Int) ≤ 9223372036854775807 := by omega
  clear hs hl
  go_enter Try.func137, Try.ntmps137
  go_wp2
  go_loopw [7] (fun i wr => ∃ k : Nat, i = .int .i64 k ∧ k ≤ l.length ∧ Hid (∀ x ∈ l.take k, outP lo hi x = false) ∧ wr = w) (fun i _ => l.length - (intOf i).toNat)
  case atStart => exact ⟨0, rfl, by omega, by show ∀ x, _; simp, rfl⟩
  case round =>
    obtain ⟨k, rfl, hk, hI, rfl⟩ := hrel
    by_cases hlt : k < l.length
    · obtain ⟨b, off, rfl, hb, hc⟩ := Hs.out.atInt hlt
      have e1 := hc k hlt
      have ht := hid (take_snoc l k hlt)
      have hm := hid (List.getElem_mem hlt)
      obtain ⟨y, hy⟩ : ∃ y, l[k] = y := ⟨_, rfl⟩
      rw [hy] at e1 ht hm
      clear hc hy
      by_cases h0 : y < lo
      · have hr : Hid (outB lo hi l = true) := List.any_eq_true.2 ⟨y, hm.out, by rw [outP, decide_eq_true h0]; rfl⟩
        go_wp2
        go_ret
        exact ⟨by rw [hr.out]; rfl, by trivial⟩
      · by_cases h1 : hi < y
        · have hr : Hid (outB lo hi l = true) := List.any_eq_true.2 ⟨y, hm.out, by rw [outP, decide_eq_true h1, Bool.or_true]⟩
          go_wp2
          go_ret
          exact ⟨by rw [hr.out]; rfl, by trivial⟩
        · have hq : Hid (outP lo hi y = false) := by show _ = _; rw [outP, decide_eq_false h0, decide_eq_false h1]; rfl
          go_wp2
          exact ⟨⟨k + 1, by go_num, by omega, mem_snoc ht.out hI.out hq.out, by trivial⟩, by simp [intOf]; omega⟩
    · have hke : l.take k = l := List.take_of_length_le (by omega)
      rw [hke] at hI
      have hr : Hid (outB lo hi l = false) := by
        show _ = _
        rw [outB, ← Bool.not_eq_true, List.any_eq_true]
        rintro ⟨x, hx, h⟩
        rw [hI.out x hx] at h
        cases h
      clear hke
      go_wp2
      go_ret
      exact ⟨by rw [hr.out]; rfl, by trivial⟩
theorem RList_of (a : Option Addr) (cap : Nat) (l : List Int) (lo hi : Int) (w : World) (hl : l.length ≤ 9223372036854775807) (hs : Sl w a (ints l)) :
    Calls Try.prog 71 #[.slice a l.length cap, .int .i64 lo, .int .i64 hi] w fun e w' => e = .returned (.int .i64 (listE lo hi l)) ∧ w = w' := by
  have c1 := hid (ROut_any a cap l lo hi w hl hs)
  rw [listE]
  obtain ⟨q, hq⟩ : ∃ q, outB lo hi l = q := ⟨_, rfl⟩
  rw [hq] at c1 ⊢
  clear hq hs hl
  by_cases h : 64 < l.length
  · rw [if_pos h]
    have hI : (64 : Int) < l.length := by omega
    go_enter Try.func71, Try.ntmps71
    go_wp2
    go_ret
    exact ⟨rfl, rfl⟩
  · rw [if_neg h]
    have hI : ¬ (64 : Int) < l.length := by omega
    clear h
    go_enter Try.func71, Try.ntmps71
    go_wp2_with fail
    refine c1.out.mono ?_
    rintro e w1 ⟨rfl, rfl⟩
    cases q
    · go_wp2
      go_ret
      exact ⟨rfl, rfl⟩
    · go_wp2
      go_ret
      exact ⟨rfl, rfl⟩
theorem List_any32 (a : Option Addr) (cap : Nat) (l : List Int) (lo hi : Int) (w : World) (hl : l.length ≤ 9223372036854775807) (hs : Sl w a (ints l)) :
    Calls Try.prog 131 #[.slice a l.length cap, .int .i64 lo, .int .i64 hi] w fun e w' => e = .returned (.int .i64 (listE lo hi l)) ∧ Below w.heap.size w w' := by
  have c1 := hid (Outside_any a cap l lo hi w hl hs)
  rw [listE]
  obtain ⟨q, hq⟩ : ∃ q, outB lo hi l = q := ⟨_, rfl⟩
  rw [hq] at c1 ⊢
  clear hq hs hl
  by_cases h : 64 < l.length
  · rw [if_pos h]
    have hI : (64 : Int) < l.length := by omega
    have HB : Hid (Below w.heap.size w w) := Below.refl _ _
    go_enter Try.func131, Try.ntmps131
    go_wp2
    go_ret
    exact ⟨rfl, HB.out⟩
  · rw [if_neg h]
    have hI : ¬ (64 : Int) < l.length := by omega
    clear h
    go_enter Try.func131, Try.ntmps131
    go_wp2_with fail
    refine c1.out.mono ?_
    rintro e w1 ⟨rfl, hB⟩
    have HB := hid hB
    clear hB
    cases q
    · go_wp2
      go_ret
      exact ⟨rfl, HB.out⟩
    · go_wp2
      go_ret
      exact ⟨rfl, HB.out⟩

/-! ### signs -/
def sgP (x y : Int) : Bool := (decide (y < 0) != decide (x < 0)) || ((y == 0) != (x == 0))
def sgB : List Int → Bool
  | [] => false
  | x :: l => l.any (sgP x)
theorem cntP_pos {p : Int → Bool} {l : List Int} : (0 < l.countP p) ↔ ∃ x ∈ l, p x = true := List.countP_pos_iff
theorem sg_mix (l : List Int) : sgB l = mixB l := by
  rw [Bool.eq_iff_iff, mixB]
  simp only [Bool.or_eq_true, Bool.and_eq_true, decide_eq_true_eq]
  have hs : ∀ a b : Nat, 0 < a + b ↔ 0 < a ∨ 0 < b := by omega
  rw [hs]
  unfold negC posC zeroC
  simp only [cntP_pos, decide_eq_true_eq]
  cases l with
  | nil => simp [sgB]
  | cons x l =>
    rw [sgB, List.any_eq_true]
    constructor
    · rintro ⟨y, hy, h⟩
      rw [sgP] at h
      simp only [Bool.or_eq_true, bne_iff_ne, ne_eq] at h
      have hx : x ∈ x :: l := List.mem_cons_self
      have hy' : y ∈ x :: l := List.mem_cons_of_mem _ hy
      have hc : (x < 0 ∨ x = 0 ∨ 0 < x) ∧ (y < 0 ∨ y = 0 ∨ 0 < y) := by omega
      obtain ⟨h1 | h1 | h1, h2 | h2 | h2⟩ := hc
      · exfalso; rcases h with h | h
        · apply h; rw [decide_eq_true h1, decide_eq_true h2]
        · apply h; rw [Bool.eq_iff_iff]; simp; omega
      · exact .inl ⟨⟨x, hx, h1⟩, .inr ⟨y, hy', h2⟩⟩
      · exact .inl ⟨⟨x, hx, h1⟩, .inl ⟨y, hy', h2⟩⟩
      · exact .inl ⟨⟨y, hy', h2⟩, .inr ⟨x, hx, h1⟩⟩
      · exfalso; rcases h with h | h
        · apply h; rw [decide_eq_false (by omega : ¬ y < 0), decide_eq_false (by omega : ¬ x < 0)]
        · apply h; rw [Bool.eq_iff_iff]; simp; omega
      · exact .inr ⟨⟨y, hy', h2⟩, ⟨x, hx, h1⟩⟩
      · exact .inl ⟨⟨y, hy', h2⟩, .inl ⟨x, hx, h1⟩⟩
      · exact .inr ⟨⟨x, hx, h1⟩, ⟨y, hy', h2⟩⟩
      · exfalso; rcases h with h | h
        · apply h; rw [decide_eq_false (by omega : ¬ y < 0), decide_eq_false (by omega : ¬ x < 0)]
        · apply h; rw [Bool.eq_iff_iff]; simp; omega
    · intro h
      have key : ∃ y ∈ x :: l, sgP x y = true := by
        have hne : ∀ y, (y < 0 ∧ ¬ x < 0 ∨ ¬ y < 0 ∧ x < 0 ∨ y = 0 ∧ ¬ x = 0 ∨ ¬ y = 0 ∧ x = 0) → sgP x y = true := by
          intro y hy
          rw [sgP, Bool.or_eq_true, bne_iff_ne, bne_iff_ne]
          rcases hy with ⟨h1, h2⟩ | ⟨h1, h2⟩ | ⟨h1, h2⟩ | ⟨h1, h2⟩
          · left; rw [decide_eq_true h1, decide_eq_false h2]; decide
          · left; rw [decide_eq_false h1, decide_eq_true h2]; decide
          · right; intro e; rw [Bool.eq_iff_iff] at e; simp at e; omega
          · right; intro e; rw [Bool.eq_iff_iff] at e; simp at e; omega
        rcases h with ⟨⟨n, hn, hn0⟩, ⟨p, hp, hp0⟩ | ⟨z, hz, hz0⟩⟩ | ⟨⟨p, hp, hp0⟩, ⟨z, hz, hz0⟩⟩
        · by_cases hx : x < 0
          · exact ⟨p, hp, hne p (by omega)⟩
          · exact ⟨n, hn, hne n (by omega)⟩
        · by_cases hx : x < 0
          · exact ⟨z, hz, hne z (by omega)⟩
          · exact ⟨n, hn, hne n (by omega)⟩
        · by_cases hx : x = 0
          · exact ⟨p, hp, hne p (by omega)⟩
          · exact ⟨z, hz, hne z (by omega)⟩
      obtain ⟨y, hy, h⟩ := key
      rcases List.mem_cons.1 hy with rfl | hy
      · rw [sgP] at h; simp at h
      · exact ⟨y, hy, h⟩
end Go.Proofs.Ytndfckpcbiecnaa

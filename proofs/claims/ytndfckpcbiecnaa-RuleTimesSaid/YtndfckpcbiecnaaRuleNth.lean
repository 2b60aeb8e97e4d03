/-
  Small functions over lists of weekdays; rules in memory.
-/
import Derived.Test.YtndfckpcbiecnaaRuleFn
namespace Go.Proofs.Ytndfckpcbiecnaa
open Go.RowKit
set_option linter.unusedVariables false

/-- two ints an element -/
def nth2 (x : Int × Int) : List Value := [.int .i64 x.1, .int .i64 x.2]
def nths (l : List (Int × Int)) : List Value := l.flatMap nth2
theorem nths_length (l : List (Int × Int)) : (nths l).length = l.length * 2 := by
  induction l with
  | nil => rfl
  | cons x l ih => simp only [nths, List.flatMap_cons, List.length_append, List.length_cons] at ih ⊢; rw [ih]; simp [nth2]; omega
theorem nths_get (l : List (Int × Int)) : ∀ (k : Nat) (hk : k < l.length), (nths l)[k * 2]? = some (.int .i64 l[k].1) ∧ (nths l)[k * 2 + 1]? = some (.int .i64 l[k].2) := by
  induction l with
  | nil => intro k hk; simp at hk
  | cons x l ih =>
    intro k hk
    have e : nths (x :: l) = nth2 x ++ nths l := by simp [nths]
    cases k with
    | zero => simp [e, nth2]
    | succ k =>
      have hk' : k < l.length := by simpa using hk
      obtain ⟨h1, h2⟩ := ih k hk'
      have hl : (nth2 x).length = 2 := rfl
      refine ⟨?_, ?_⟩
      · rw [e, List.getElem?_append_right (by rw [hl]; omega), hl, show (k + 1) * 2 - 2 = k * 2 by omega, h1]; simp
      · rw [e, List.getElem?_append_right (by rw [hl]; omega), hl, show (k + 1) * 2 + 1 - 2 = k * 2 + 1 by omega, h2]; simp
theorem Sl.atNth {w : World} {a : Option Addr} {l : List (Int × Int)} (h : Sl w a (nths l)) {k : Nat} (hk : k < l.length) :
    ∃ b off, a = some ⟨b, off, none⟩ ∧ b < w.heap.size ∧ ∀ j (h : j < l.length), w.cell? ⟨b, off + j * 2, none⟩ = some (.int .i64 l[j].1) ∧ w.cell? ⟨b, off + j * 2 + 1, none⟩ = some (.int .i64 l[j].2) := by
  obtain ⟨b, off, rfl, hlt, hc⟩ := Sl.at h (k := k * 2) (by rw [nths_length]; omega)
  refine ⟨b, off, rfl, hlt, fun j hj => ?_⟩
  have hg := nths_get l j hj
  have get : ∀ m v, (nths l)[m]? = some v → w.cell? ⟨b, off + m, none⟩ = some v := by
    intro m v hm
    obtain ⟨hlm, hv⟩ := List.getElem?_eq_some_iff.1 hm
    rw [hc m hlm, hv]
  exact ⟨get _ _ hg.1, by rw [Nat.add_assoc]; exact get _ _ hg.2⟩
def idxN (p : Int × Int → Bool) : List (Int × Int) → Int
  | [] => -1
  | x :: l => if p x then 0 else if idxN p l < 0 then -1 else idxN p l + 1
theorem idxN_neg (p : Int × Int → Bool) : ∀ l : List (Int × Int), (decide (0 ≤ idxN p l) = l.any p) ∧ -1 ≤ idxN p l
  | [] => ⟨rfl, Int.le_refl _⟩
  | x :: l => by
    obtain ⟨h, h1⟩ := idxN_neg p l
    rw [idxN, List.any_cons]
    by_cases hx : p x = true
    · rw [if_pos hx, hx]; exact ⟨rfl, by omega⟩
    · rw [if_neg hx]
      have hx' : p x = false := by simpa using hx
      rw [hx', Bool.false_or, ← h]
      by_cases h0 : idxN p l < 0
      · rw [if_pos h0, decide_eq_false (by omega : ¬ 0 ≤ idxN p l)]; exact ⟨rfl, by omega⟩
      · rw [if_neg h0, decide_eq_true (by omega : 0 ≤ idxN p l), decide_eq_true (by omega : 0 ≤ idxN p l + 1)]; exact ⟨rfl, by omega⟩
theorem idxN_at {p : Int × Int → Bool} {l : List (Int × Int)} : ∀ {k : Nat} (hk : k < l.length), (∀ x ∈ l.take k, p x = false) → p l[k] = true → idxN p l = k := by
  induction l with
  | nil => intro k hk; simp at hk
  | cons x l ih =>
    intro k hk h1 h2
    cases k with
    | zero => rw [idxN]; simp only [List.getElem_cons_zero] at h2; rw [if_pos h2]; rfl
    | succ k =>
      have hk' : k < l.length := by simpa using hk
      have hx : p x = false := h1 x (by simp)
      have := ih hk' (fun y hy => h1 y (by simp [hy])) (by simpa using h2)
      rw [idxN, hx, if_neg (by simp), this, if_neg (by omega)]
      omega
theorem idxN_none {p : Int × Int → Bool} : ∀ {l : List (Int × Int)}, (∀ x ∈ l, p x = false) → idxN p l = -1
  | [], _ => rfl
  | x :: l, h => by
    rw [idxN, h x (by simp), if_neg (by simp), idxN_none (fun y hy => h y (by simp [hy])), if_pos (by omega)]
theorem memN_snoc {p : Int × Int → Bool} {l : List (Int × Int)} {k : Nat} {y : Int × Int} (ht : l.take (k + 1) = l.take k ++ [y]) (h : ∀ x ∈ l.take k, p x = false) (hy : p y = false) : ∀ x ∈ l.take (k + 1), p x = false := by
  rw [ht]
  intro x hx
  rcases List.mem_append.1 hx with hx | hx
  · exact h x hx
  · obtain rfl := List.mem_singleton.1 hx; exact hy
def dayP (x : Int × Int) : Bool := decide (x.2 < 1) || decide (7 < x.2)
theorem Weeks1_any (n d : Int) (w : World) : Calls Try.prog 174 #[.agg #[.int .i64 n, .int .i64 d]] w fun e w' => e = .returned (.bool (dayP (n, d))) ∧ Below w.heap.size w w' := by
  rw [dayP]
  have HB : Hid (Below w.heap.size w (w.alloc (.cells #[.int .i64 n, .int .i64 d] 37))) := below_new (Below.refl _ _) (Nat.le_refl _)
  by_cases h : d < 1
  · have hd : decide ((n, d).2 < 1) = true := decide_eq_true h
    rw [hd]
    clear hd
    go_enter Try.func174, Try.ntmps174
    go_wp2
    go_ret
    exact ⟨rfl, HB.out⟩
  · have hd : decide ((n, d).2 < 1) = false := decide_eq_false h
    rw [hd]
    clear hd
    go_enter Try.func174, Try.ntmps174
    go_wp2
    go_ret
    exact ⟨rfl, HB.out⟩
set_option maxHeartbeats 800000 in
theorem IdxNth_any (a : Option Addr) (cap : Nat) (l : List (Int × Int)) (w : World) (hl : l.length ≤ 1000000000000) (hs : Sl w a (nths l)) :
    Calls Try.prog 182 #[.slice a l.length cap, .func (.func 174) #[] #[]] w fun e w' => e = .returned (.int .i64 (idxN dayP l)) ∧ Below w.heap.size w w' := by
  have Hs := hid hs
  have hlI : (l.length : Int) ≤ 1000000000000 := by omega
  clear hs hl
  go_enter Try.func182, Try.ntmps182
  go_wp2
  go_loopw [8] (fun i wr => ∃ k : Nat, i = .int .i64 k ∧ k ≤ l.length ∧ Hid (∀ x ∈ l.take k, dayP x = false) ∧ Hid (Below w.heap.size w wr)) (fun i _ => l.length - (intOf i).toNat)
  case atStart => exact ⟨0, rfl, by omega, by show ∀ x, _; simp, Below.refl _ _⟩
  case round =>
    obtain ⟨k, rfl, hk, hI, hB⟩ := hrel
    by_cases hlt : k < l.length
    · obtain ⟨b, off, rfl, hb, hc⟩ := Hs.out.atNth hlt
      have e1 := (hB.out.cell (p := ⟨b, off + k * 2, none⟩) hb).trans (hc k hlt).1
      have e2 := (hB.out.cell (p := ⟨b, off + k * 2 + 1, none⟩) hb).trans (hc k hlt).2
      have ht := hid (take_snoc l k hlt)
      have hat := hid (fun h => idxN_at (p := dayP) hlt hI.out h)
      obtain ⟨y, hy⟩ : ∃ y, l[k] = y := ⟨_, rfl⟩
      rw [hy] at e1 e2 ht hat
      clear hc hy
      obtain ⟨q, hq⟩ : ∃ q, dayP y = q := ⟨_, rfl⟩
      have c2 := hid (Weeks1_any y.1 y.2 wr)
      rw [show dayP (y.1, y.2) = dayP y from rfl, hq] at c2
      have Hq := hid hq
      clear hq
      cases q
      · go_wp2_with fail
        refine c2.out.mono ?_
        rintro e w1 ⟨rfl, hB1⟩
        have hB2 := hid (hB.out.trans (hB1.mono hB.out.size))
        clear hB1
        go_wp2
        exact ⟨⟨k + 1, by go_num, by omega, memN_snoc ht.out hI.out Hq.out, hB2⟩, by simp [intOf]; omega⟩
      · go_wp2_with fail
        refine c2.out.mono ?_
        rintro e w1 ⟨rfl, hB1⟩
        have hB2 := hid (hB.out.trans (hB1.mono hB.out.size))
        clear hB1
        go_wp2
        go_ret
        exact ⟨by rw [hat.out Hq.out]; rfl, hB2.out⟩
    · have hke : l.take k = l := List.take_of_length_le (by omega)
      rw [hke] at hI
      have hr := hid (idxN_none hI.out)
      clear hke
      go_wp2
      go_ret
      exact ⟨by rw [hr.out]; rfl, hB.out⟩
theorem ContNth_any (a : Option Addr) (cap : Nat) (l : List (Int × Int)) (w : World) (hl : l.length ≤ 1000000000000) (hs : Sl w a (nths l)) :
    Calls Try.prog 173 #[.slice a l.length cap, .func (.func 174) #[] #[]] w fun e w' => e = .returned (.bool (l.any dayP)) ∧ Below w.heap.size w w' := by
  have c1 := hid (IdxNth_any a cap l w hl hs)
  have hr := hid (idxN_neg dayP l).1
  rw [← hr.out]
  clear hs hl
  go_enter Try.func173, Try.ntmps173
  go_wp2_with fail
  refine c1.out.mono ?_
  rintro e w1 ⟨rfl, hB⟩
  have HB := hid hB
  clear hB
  go_wp2
  go_ret
  exact ⟨rfl, HB.out⟩
set_option maxHeartbeats 800000 in
theorem IdxInt_any (a : Option Addr) (cap : Nat) (l : List Int) (z : Int) (w : World) (hl : l.length ≤ 9223372036854775807) (hs : Sl w a (ints l)) :
    Calls Try.prog 181 #[.slice a l.length cap, .int .i64 z] w fun e w' => e = .returned (.int .i64 (idxP (fun n => n == z) l)) ∧ w = w' := by
  have Hs := hid hs
  have hlI : (l.length : Int) ≤ 9223372036854775807 := by omega
  clear hs hl
  go_enter Try.func181, Try.ntmps181
  go_wp2
  go_loopw [8] (fun i wr => ∃ k : Nat, i = .int .i64 k ∧ k ≤ l.length ∧ Hid (∀ x ∈ l.take k, (fun n => n == z) x = false) ∧ wr = w) (fun i _ => l.length - (intOf i).toNat)
  case atStart => exact ⟨0, rfl, by omega, by show ∀ x, _; simp, rfl⟩
  case round =>
    obtain ⟨k, rfl, hk, hI, rfl⟩ := hrel
    by_cases hlt : k < l.length
    · obtain ⟨b, off, rfl, hb, hc⟩ := Hs.out.atInt hlt
      have e1 := hc k hlt
      have ht := hid (take_snoc l k hlt)
      have hat := hid (fun h => idxP_at (p := fun n => n == z) hlt hI.out h)
      obtain ⟨y, hy⟩ : ∃ y, l[k] = y := ⟨_, rfl⟩
      rw [hy] at e1 ht hat
      clear hc hy
      by_cases h : z = y
      · have hz : (z == y) = true := by simpa using h
        have hy' : Hid ((fun n => n == z) y = true) := by show (y == z) = true; simpa using h.symm
        clear h
        go_wp2
        go_ret
        exact ⟨by rw [hat.out hy'.out]; rfl, by trivial⟩
      · have hz : (z == y) = false := by simpa using h
        have hy' : Hid ((fun n => n == z) y = false) := by show (y == z) = false; simpa using fun e => h (Eq.symm e)
        clear h
        go_wp2
        exact ⟨⟨k + 1, by go_num, by omega, mem_snoc ht.out hI.out hy'.out, by trivial⟩, by simp [intOf]; omega⟩
    · have hke : l.take k = l := List.take_of_length_le (by omega)
      rw [hke] at hI
      have hr := hid (idxP_none hI.out)
      clear hke
      go_wp2
      go_ret
      exact ⟨by rw [hr.out]; rfl, by trivial⟩
theorem ContInt_any (a : Option Addr) (cap : Nat) (l : List Int) (z : Int) (w : World) (hl : l.length ≤ 9223372036854775807) (hs : Sl w a (ints l)) :
    Calls Try.prog 171 #[.slice a l.length cap, .int .i64 z] w fun e w' => e = .returned (.bool (l.any (fun n => n == z))) ∧ w = w' := by
  have c1 := hid (IdxInt_any a cap l z w hl hs)
  have hr := hid (idxP_neg (fun n => n == z) l).1
  rw [← hr.out]
  clear hs hl
  go_enter Try.func171, Try.ntmps171
  go_wp2_with fail
  refine c1.out.mono ?_
  rintro e w1 ⟨rfl, rfl⟩
  go_wp2
  go_ret
  exact ⟨rfl, rfl⟩
end Go.Proofs.Ytndfckpcbiecnaa

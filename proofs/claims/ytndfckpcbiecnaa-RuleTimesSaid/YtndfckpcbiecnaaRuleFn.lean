/-
  Small functions over lists of numbers: rule.outside, rule.mixed, slices' functions of them.
-/
import Derived.Test.YtndfckpcbiecnaaBase
namespace Go.Proofs.Ytndfckpcbiecnaa
open Go.RowKit
set_option linter.unusedVariables false

def outP (lo hi n : Int) : Bool := decide (n < lo) || decide (hi < n)
def outB (lo hi : Int) (l : List Int) : Bool := l.any (outP lo hi)
/-- where the first is, or -1 -/
def idxP (p : Int → Bool) : List Int → Int
  | [] => -1
  | x :: l => if p x then 0 else if idxP p l < 0 then -1 else idxP p l + 1
theorem idxP_neg (p : Int → Bool) : ∀ l : List Int, (decide (0 ≤ idxP p l) = l.any p) ∧ -1 ≤ idxP p l
  | [] => ⟨rfl, Int.le_refl _⟩
  | x :: l => by
    obtain ⟨h, h1⟩ := idxP_neg p l
    rw [idxP, List.any_cons]
    by_cases hx : p x = true
    · rw [if_pos hx, hx]; exact ⟨rfl, by omega⟩
    · rw [if_neg hx]
      have hx' : p x = false := by simpa using hx
      rw [hx', Bool.false_or, ← h]
      by_cases h0 : idxP p l < 0
      · rw [if_pos h0, decide_eq_false (by omega : ¬ 0 ≤ idxP p l)]; exact ⟨rfl, by omega⟩
      · rw [if_neg h0, decide_eq_true (by omega : 0 ≤ idxP p l), decide_eq_true (by omega : 0 ≤ idxP p l + 1)]; exact ⟨rfl, by omega⟩
theorem idxP_at {p : Int → Bool} {l : List Int} : ∀ {k : Nat} (hk : k < l.length), (∀ x ∈ l.take k, p x = false) → p l[k] = true → idxP p l = k := by
  induction l with
  | nil => intro k hk; simp at hk
  | cons x l ih =>
    intro k hk h1 h2
    cases k with
    | zero => rw [idxP]; simp only [List.getElem_cons_zero] at h2; rw [if_pos h2]; rfl
    | succ k =>
      have hk' : k < l.length := by simpa using hk
      have hx : p x = false := h1 x (by simp)
      have := ih hk' (fun y hy => h1 y (by simp [hy])) (by simpa using h2)
      rw [idxP, hx, if_neg (by simp), this, if_neg (by omega)]
      omega
theorem idxP_none {p : Int → Bool} : ∀ {l : List Int}, (∀ x ∈ l, p x = false) → idxP p l = -1
  | [], _ => rfl
  | x :: l, h => by
    rw [idxP, h x (by simp), if_neg (by simp), idxP_none (fun y hy => h y (by simp [hy])), if_pos (by omega)]
theorem mem_snoc {p : Int → Bool} {l : List Int} {k : Nat} {y : Int} (ht : l.take (k + 1) = l.take k ++ [y]) (h : ∀ x ∈ l.take k, p x = false) (hy : p y = false) : ∀ x ∈ l.take (k + 1), p x = false := by
  rw [ht]
  intro x hx
  rcases List.mem_append.1 hx with hx | hx
  · exact h x hx
  · obtain rfl := List.mem_singleton.1 hx; exact hy

theorem Out1_any (n lo hi : Int) (b4 b5 : Nat) (w : World) (h4 : w.cell? ⟨b4, 0, none⟩ = some (.int .i64 lo)) (h5 : w.cell? ⟨b5, 0, none⟩ = some (.int .i64 hi)) :
    Calls Try.prog 141 #[.int .i64 n, .pointer (some ⟨b4, 0, none⟩), .pointer (some ⟨b5, 0, none⟩)] w fun e w' => e = .returned (.bool (outP lo hi n)) ∧ w = w' := by
  rw [outP]
  by_cases h : n < lo
  · have hd : decide (n < lo) = true := decide_eq_true h
    rw [hd]
    clear hd
    go_enter Try.func141, Try.ntmps141
    go_wp2
    go_ret
    exact ⟨rfl, rfl⟩
  · have hd : decide (n < lo) = false := decide_eq_false h
    rw [hd]
    clear hd
    go_enter Try.func141, Try.ntmps141
    go_wp2
    go_ret
    exact ⟨rfl, rfl⟩
set_option maxHeartbeats 800000 in
theorem IdxOut_any (a : Option Addr) (cap : Nat) (l : List Int) (lo hi : Int) (b4 b5 : Nat) (w : World) (hl : l.length ≤ 9223372036854775807) (hs : Sl w a (ints l))
    (h4 : w.cell? ⟨b4, 0, none⟩ = some (.int .i64 lo)) (h5 : w.cell? ⟨b5, 0, none⟩ = some (.int .i64 hi)) :
    Calls Try.prog 175 #[.slice a l.length cap, .func (.func 141) #[] #[.pointer (some ⟨b4, 0, none⟩), .pointer (some ⟨b5, 0, none⟩)]] w fun e w' => e = .returned (.int .i64 (idxP (outP lo hi) l)) ∧ w = w' := by
  have Hs := hid hs
  have c1 := hid (fun n => Out1_any n lo hi b4 b5 w h4 h5)
  have hlI : (l.length : Int) ≤ 9223372036854775807 := by omega
  clear hs hl h4 h5
  go_enter Try.func175, Try.ntmps175
  go_wp2
  go_loopw [8] (fun i wr => ∃ k : Nat, i = .int .i64 k ∧ k ≤ l.length ∧ Hid (∀ x ∈ l.take k, outP lo hi x = false) ∧ wr = w) (fun i _ => l.length - (intOf i).toNat)
  case atStart => exact ⟨0, rfl, by omega, by show ∀ x, _; simp, rfl⟩
  case round =>
    obtain ⟨k, rfl, hk, hI, rfl⟩ := hrel
    by_cases hlt : k < l.length
    · obtain ⟨b, off, rfl, hb, hc⟩ := Hs.out.atInt hlt
      have e1 := hc k hlt
      have ht := hid (take_snoc l k hlt)
      have hat := hid (fun h => idxP_at (p := outP lo hi) hlt hI.out h)
      obtain ⟨y, hy⟩ : ∃ y, l[k] = y := ⟨_, rfl⟩
      rw [hy] at e1 ht hat
      clear hc hy
      obtain ⟨q, hq⟩ : ∃ q, outP lo hi y = q := ⟨_, rfl⟩
      have c2 := hid (c1.out y)
      rw [hq] at c2
      have Hq := hid hq
      clear hq
      cases q
      · go_wp2_with fail
        refine c2.out.mono ?_
        rintro e w1 ⟨rfl, rfl⟩
        go_wp2
        exact ⟨⟨k + 1, by go_num, by omega, mem_snoc ht.out hI.out Hq.out, by trivial⟩, by simp [intOf]; omega⟩
      · go_wp2_with fail
        refine c2.out.mono ?_
        rintro e w1 ⟨rfl, rfl⟩
        go_wp2
        go_ret
        exact ⟨by rw [hat.out Hq.out]; rfl, by trivial⟩
    · have hke : l.take k = l := List.take_of_length_le (by omega)
      rw [hke] at hI
      have hr := hid (idxP_none hI.out)
      clear hke
      go_wp2
      go_ret
      exact ⟨by rw [hr.out]; rfl, by trivial⟩
theorem ContOut_any (a : Option Addr) (cap : Nat) (l : List Int) (lo hi : Int) (b4 b5 : Nat) (w : World) (hl : l.length ≤ 9223372036854775807) (hs : Sl w a (ints l))
    (h4 : w.cell? ⟨b4, 0, none⟩ = some (.int .i64 lo)) (h5 : w.cell? ⟨b5, 0, none⟩ = some (.int .i64 hi)) :
    Calls Try.prog 140 #[.slice a l.length cap, .func (.func 141) #[] #[.pointer (some ⟨b4, 0, none⟩), .pointer (some ⟨b5, 0, none⟩)]] w fun e w' => e = .returned (.bool (outB lo hi l)) ∧ w = w' := by
  have c1 := hid (IdxOut_any a cap l lo hi b4 b5 w hl hs h4 h5)
  have hr := hid (idxP_neg (outP lo hi) l).1
  rw [outB, ← hr.out]
  clear hs hl h4 h5
  go_enter Try.func140, Try.ntmps140
  go_wp2_with fail
  refine c1.out.mono ?_
  rintro e w1 ⟨rfl, rfl⟩
  go_wp2
  go_ret
  exact ⟨rfl, rfl⟩
theorem Outside_any (a : Option Addr) (cap : Nat) (l : List Int) (lo hi : Int) (w : World) (hl : l.length ≤ 9223372036854775807) (hs : Sl w a (ints l)) :
    Calls Try.prog 74 #[.slice a l.length cap, .int .i64 lo, .int .i64 hi] w fun e w' => e = .returned (.bool (outB lo hi l)) ∧ Below w.heap.size w w' := by
  have hB : Below w.heap.size w ((w.alloc (.cells #[.int .i64 lo] 3)).alloc (.cells #[.int .i64 hi] 3)) := below_new (below_new (Below.refl _ _) (Nat.le_refl _)) (by simp)
  have c1 := hid (ContOut_any a cap l lo hi w.heap.size (w.heap.size + 1) _ hl (hs.below hB) (by simp [go_sem]) (by simp [go_sem]))
  have HB := hid hB
  clear hs hl hB
  go_enter Try.func74, Try.ntmps74
  go_wp2_with fail
  refine c1.out.mono ?_
  rintro e w1 ⟨rfl, rfl⟩
  go_wp2
  go_ret
  exact ⟨rfl, HB.out⟩
/-- of both signs, or some 0 and some not -/
def negC (l : List Int) : Nat := l.countP (fun n => decide (n < 0))
def posC (l : List Int) : Nat := l.countP (fun n => decide (0 < n))
def zeroC (l : List Int) : Nat := l.countP (fun n => decide (n = 0))
def mixB (l : List Int) : Bool := (decide (0 < negC l) && decide (0 < posC l + zeroC l)) || (decide (0 < posC l) && decide (0 < zeroC l))
theorem counts (l : List Int) : negC l + posC l + zeroC l = l.length := by
  unfold negC posC zeroC
  induction l with
  | nil => rfl
  | cons x l ih =>
    simp only [List.countP_cons, List.length_cons, decide_eq_true_eq]
    have h : x < 0 ∨ x = 0 ∨ 0 < x := by omega
    rcases h with h | h | h
    · rw [if_pos h, if_neg (by omega), if_neg (by omega)]; omega
    · rw [if_neg (by omega), if_neg (by omega), if_pos h]; omega
    · rw [if_neg (by omega), if_pos h, if_neg (by omega)]; omega
theorem count_snoc (p : Int → Bool) {l : List Int} {k : Nat} {y : Int} (ht : l.take (k + 1) = l.take k ++ [y]) : (l.take (k + 1)).countP p = (l.take k).countP p + (if p y then 1 else 0) := by
  rw [ht, List.countP_append]; simp [List.countP_cons]
set_option maxHeartbeats 1600000 in
theorem Mixed_any (a : Option Addr) (cap : Nat) (l : List Int) (w : World) (hl : l.length ≤ 1000000000000) (hs : Sl w a (ints l)) :
    Calls Try.prog 172 #[.slice a l.length cap] w fun e w' => e = .returned (.bool (mixB l)) ∧ w = w' := by
  have Hs := hid hs
  have hlI : (l.length : Int) ≤ 1000000000000 := by omega
  clear hs hl
  go_enter Try.func172, Try.ntmps172
  go_wp2
  go_loopw [3, 4, 5, 10] (fun b c d i wr => ∃ k x y z : Nat, i = .int .i64 k ∧ k ≤ l.length ∧ b = .int .i64 x ∧ c = .int .i64 y ∧ d = .int .i64 z ∧ Hid (x = negC (l.take k) ∧ y = posC (l.take k) ∧ z = zeroC (l.take k)) ∧ (x ≤ k ∧ y ≤ k ∧ z ≤ k) ∧ wr = w) (fun _ _ _ i _ => l.length - (intOf i).toNat)
  case atStart => exact ⟨0, 0, 0, 0, rfl, by omega, rfl, rfl, rfl, ⟨rfl, rfl, rfl⟩, ⟨by omega, by omega, by omega⟩, rfl⟩
  case round =>
    obtain ⟨k, x, y, z, rfl, hk, rfl, rfl, rfl, hI, ⟨hx, hy, hz⟩, rfl⟩ := hrel
    by_cases hlt : k < l.length
    · obtain ⟨b, off, rfl, hb, hc⟩ := Hs.out.atInt hlt
      have e1 := hc k hlt
      have ht := hid (take_snoc l k hlt)
      obtain ⟨v, hv⟩ : ∃ v, l[k] = v := ⟨_, rfl⟩
      rw [hv] at e1 ht
      clear hc hv
      have n1 := hid (count_snoc (fun n => decide (n < 0)) ht.out)
      have n2 := hid (count_snoc (fun n => decide (0 < n)) ht.out)
      have n3 := hid (count_snoc (fun n => decide (n = 0)) ht.out)
      have h3 : v < 0 ∨ 0 < v ∨ v = 0 := by omega
      rcases h3 with h | h | h
      · have hr : Hid (x + 1 = negC (l.take (k + 1)) ∧ y = posC (l.take (k + 1)) ∧ z = zeroC (l.take (k + 1))) := by
          refine ⟨?_, ?_, ?_⟩
          · rw [negC, n1.out, if_pos (decide_eq_true h), hI.out.1]; rfl
          · rw [posC, n2.out, if_neg (by simp; omega), hI.out.2.1]; rfl
          · rw [zeroC, n3.out, if_neg (by simp; omega), hI.out.2.2]; rfl
        go_wp2
        exact ⟨⟨k + 1, x + 1, y, z, by go_num, by omega, by go_num, rfl, rfl, hr, ⟨by omega, by omega, by omega⟩, by trivial⟩, by simp [intOf]; omega⟩
      · have hr : Hid (x = negC (l.take (k + 1)) ∧ y + 1 = posC (l.take (k + 1)) ∧ z = zeroC (l.take (k + 1))) := by
          refine ⟨?_, ?_, ?_⟩
          · rw [negC, n1.out, if_neg (by simp; omega), hI.out.1]; rfl
          · rw [posC, n2.out, if_pos (decide_eq_true h), hI.out.2.1]; rfl
          · rw [zeroC, n3.out, if_neg (by simp; omega), hI.out.2.2]; rfl
        have hn : ¬ v < 0 := by omega
        go_wp2
        exact ⟨⟨k + 1, x, y + 1, z, by go_num, by omega, rfl, by go_num, rfl, hr, ⟨by omega, by omega, by omega⟩, by trivial⟩, by simp [intOf]; omega⟩
      · have hr : Hid (x = negC (l.take (k + 1)) ∧ y = posC (l.take (k + 1)) ∧ z + 1 = zeroC (l.take (k + 1))) := by
          refine ⟨?_, ?_, ?_⟩
          · rw [negC, n1.out, if_neg (by simp; omega), hI.out.1]; rfl
          · rw [posC, n2.out, if_neg (by simp; omega), hI.out.2.1]; rfl
          · rw [zeroC, n3.out, if_pos (decide_eq_true h), hI.out.2.2]; rfl
        have hn : ¬ v < 0 := by omega
        have hn' : ¬ 0 < v := by omega
        clear h
        go_wp2
        exact ⟨⟨k + 1, x, y, z + 1, by go_num, by omega, rfl, rfl, by go_num, hr, ⟨by omega, by omega, by omega⟩, by trivial⟩, by simp [intOf]; omega⟩
    · have hke : l.take k = l := List.take_of_length_le (by omega)
      rw [hke] at hI
      have hr : Hid (mixB l = ((decide (0 < x) && decide (0 < y + z)) || (decide (0 < y) && decide (0 < z)))) := by
        show _ = _
        rw [mixB, ← hI.out.1, ← hI.out.2.1, ← hI.out.2.2]
      clear hke hI
      by_cases h1 : 0 < x
      · by_cases h2 : 0 < y + z
        · have h2' : (0 : Int) < y + z := by omega
          have hf : Hid (mixB l = true) := by show _ = _; rw [hr.out, decide_eq_true h1, decide_eq_true h2]; rfl
          clear hr
          go_wp2
          go_ret
          exact ⟨by rw [hf.out]; rfl, by trivial⟩
        · have h2' : ¬ (0 : Int) < y + z := by omega
          have h3 : ¬ 0 < y := by omega
          have hf : Hid (mixB l = false) := by show _ = _; rw [hr.out, decide_eq_false h2, decide_eq_false h3, Bool.and_false]; rfl
          clear hr
          go_wp2
          go_ret
          exact ⟨by rw [hf.out]; rfl, by trivial⟩
      · by_cases h3 : 0 < y
        · by_cases h4 : 0 < z
          · have hf : Hid (mixB l = true) := by show _ = _; rw [hr.out, decide_eq_true h3, decide_eq_true h4, Bool.and_true, Bool.or_true]
            clear hr
            go_wp2
            go_ret
            exact ⟨by rw [hf.out]; rfl, by trivial⟩
          · have hf : Hid (mixB l = false) := by show _ = _; rw [hr.out, decide_eq_false h1, decide_eq_false h4, Bool.and_false, Bool.false_and]; rfl
            clear hr
            go_wp2
            go_ret
            exact ⟨by rw [hf.out]; rfl, by trivial⟩
        · have hf : Hid (mixB l = false) := by show _ = _; rw [hr.out, decide_eq_false h1, decide_eq_false h3, Bool.false_and, Bool.false_and]; rfl
          clear hr
          go_wp2
          go_ret
          exact ⟨by rw [hf.out]; rfl, by trivial⟩
end Go.Proofs.Ytndfckpcbiecnaa

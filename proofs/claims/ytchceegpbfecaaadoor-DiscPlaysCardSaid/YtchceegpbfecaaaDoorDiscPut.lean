/-
  What a disc's Put, and disc.Of, compute.
-/
import Derived.Test.YtchceegpbfecaaaDoorDiscBase
import Derived.Test.YtchceegpbfecaaaDoorIter
namespace Go.Proofs.YtchceegpbfecaaaDoor
open Go.RowKit
set_option linter.unusedVariables false
attribute [local go_sem] zval107 zne107

/-- one number put in: the words, and how many were new -/
def putS (x : (Nat → Nat) × Nat) (n : Int) : (Nat → Nat) × Nat :=
  if dsecB n && !bitW x.1 n.toNat then (fun j => if j = n.toNat / 64 then x.1 (n.toNat / 64) ||| 2 ^ (n.toNat % 64) else x.1 j, x.2 + 1) else x
def putL (f : Nat → Nat) (l : List Int) : (Nat → Nat) × Nat := l.foldl putS (f, 0)
theorem putL_snoc (f : Nat → Nat) (l : List Int) (k : Nat) (h : k < l.length) : putL f (l.take (k + 1)) = putS (putL f (l.take k)) l[k] := by
  rw [putL, putL, take_snoc l k h, List.foldl_append]; rfl

set_option maxRecDepth 100000 in
set_option maxHeartbeats 3200000 in
theorem Put_any (b : Nat) (f : Nat → Nat) (a : Option Addr) (cap : Nat) (l : List Int) (w : World) (hl : l.length ≤ 9223372036854775807) (hs : Sl w a (ints l)) (hne : l ≠ [] → ∀ g off, a = some ⟨g, off, none⟩ → g ≠ b)
    (hc : DC w b f) (hfz : ∀ i, w.frozen? ⟨b, i, none⟩ = false) (hf : ∀ i, i < 1350 → f i < 18446744073709551616) :
    Calls Tryd.prog 7 #[.pointer (some ⟨b, 0, none⟩), .slice a l.length cap] w fun e w' => e = .returned (.int .i64 ((putL f l).2 : Nat)) ∧ DC w' b (putL f l).1 ∧ (∀ i, w'.frozen? ⟨b, i, none⟩ = false) ∧
      Eff (fun x => x = b) w w' := by
  have Hs := hid hs
  have Hne := hid hne
  have Hc := hid hc
  have Hfz := hid hfz
  have Hf := hid hf
  have c1 := hid (fun n W => DMay_any n W)
  have hlI : (l.length : Int) ≤ 9223372036854775807 := by omega
  clear hs hne hc hfz hf hl
  go_enter Tryd.func7, Tryd.ntmps7
  go_wp2
  go_loopw [5, 12] (fun m i wr => ∃ k : Nat, i = .int .i64 k ∧ m = .int .i64 ((putL f (l.take k)).2 : Nat) ∧ k ≤ l.length ∧ Hid (DC wr b (putL f (l.take k)).1 ∧ (∀ i, wr.frozen? ⟨b, i, none⟩ = false) ∧ (∀ i, i < 1350 → (putL f (l.take k)).1 i < 18446744073709551616) ∧ (putL f (l.take k)).2 ≤ k) ∧ Hid (Eff (fun x => x = b) w wr)) (fun _ i _ => l.length - (intOf i).toNat)
  case atStart => exact ⟨0, rfl, rfl, by omega, ⟨Hc.out, Hfz.out, Hf.out, Nat.le_refl _⟩, Eff.refl _ _⟩
  case round =>
    obtain ⟨k, rfl, rfl, hk, HJ, HE⟩ := hrel
    by_cases hlt : k < l.length
    · obtain ⟨g, off, rfl, hb, hcl⟩ := Hs.out.atInt hlt
      have e1 := (HE.out.cell (p := ⟨g, off + k, none⟩) hb (Hne.out (fun e => by rw [e] at hlt; simp at hlt) g off rfl)).trans (hcl k hlt)
      have hsn := hid (putL_snoc f l k hlt)
      obtain ⟨x, hx⟩ : ∃ x, l[k] = x := ⟨_, rfl⟩
      rw [hx] at e1 hsn
      obtain ⟨p, hp⟩ : ∃ p, putL f (l.take k) = p := ⟨_, rfl⟩
      rw [hp] at HJ hsn ⊢
      clear hcl hx hp
      by_cases hd : dsecB x = true
      · have hm := hid (c1.out x)
        rw [hd] at hm
        have hh := hid (DHas_any b p.1 x wr HJ.out.1 HJ.out.2.2.1)
        obtain ⟨n, rfl, hn⟩ := dsecB_some hd
        have hq : hasD p.1 (n : Int) = bitW p.1 n := by rw [hasD, hd]; rfl
        rw [hq] at hh
        by_cases hb2 : bitW p.1 n = true
        · rw [hb2] at hh
          have he : Hid (putS p (n : Int) = p) := by show _ = _; rw [putS, Int.toNat_natCast, hb2]; simp
          clear hb2 hq hd
          have hnI : (n : Int) < 87000 := by omega
          clear hn
          go_wp2_with fail
          refine (hm.out _).mono ?_
          rintro e w' ⟨rfl, rfl⟩
          go_wp2_with fail
          refine hh.out.mono ?_
          rintro e w' ⟨rfl, rfl⟩
          go_wp2
          exact ⟨⟨k + 1, by go_num, by rw [hsn.out, he.out], by omega, by rw [hsn.out, he.out]; exact ⟨HJ.out.1, HJ.out.2.1, HJ.out.2.2.1, by have := HJ.out.2.2.2; omega⟩, HE.out⟩, by simp [intOf]; omega⟩
        · have hb3 : bitW p.1 n = false := by simpa using hb2
          rw [hb3] at hh
          have he : Hid (putS p (n : Int) = (fun j => if j = n / 64 then p.1 (n / 64) ||| 2 ^ (n % 64) else p.1 j, p.2 + 1)) := by show _ = _; rw [putS, Int.toNat_natCast, hd, hb3]; rfl
          have hi : n / 64 < 1350 := by omega
          have e2 := HJ.out.1 (n / 64) hi
          have e3 := HJ.out.2.1 (n / 64)
          have hnI : (n : Int) < 87000 := by omega
          have hcnt : (p.2 : Int) + 1 ≤ 9223372036854775807 := by have := HJ.out.2.2.2; omega
          clear hb2 hb3 hq hd hn
          go_wp2_with fail
          refine (hm.out _).mono ?_
          rintro e w' ⟨rfl, rfl⟩
          go_wp2_with fail
          refine hh.out.mono ?_
          rintro e w' ⟨rfl, rfl⟩
          go_wp2_with fail
          go_region
          have hpw : n % 64 < 64 := Nat.mod_lt _ (by omega)
          have hor := bits_or (HJ.out.2.2.1 (n / 64) hi) (pow_lt hpw)
          rw [← wrap_pow hpw] at hor
          rw [hor]
          have hlt2 := or_lt (HJ.out.2.2.1 (n / 64) hi) (pow_lt hpw)
          obtain ⟨v, hv⟩ : ∃ v, p.1 (n / 64) ||| 2 ^ (n % 64) = v := ⟨_, rfl⟩
          rw [hv] at hlt2 he ⊢
          have done : DC (wr.setCell ⟨b, n / 64, none⟩ (.int .u64 v)).drew b (putS p (n : Int)).1 ∧ (∀ i, (wr.setCell ⟨b, n / 64, none⟩ (.int .u64 v)).drew.frozen? ⟨b, i, none⟩ = false) ∧ (∀ i, i < 1350 → (putS p (n : Int)).1 i < 18446744073709551616) ∧ (putS p (n : Int)).2 ≤ k + 1 := by
            rw [he.out]
            refine ⟨HJ.out.1.set hi, fun i => by simp [go_sem, HJ.out.2.1 i], fun i hi => ?_, by have := HJ.out.2.2.2; simp only []; omega⟩
            simp only []
            split
            · exact hlt2
            · exact HJ.out.2.2.1 i hi
          have Done := hid done
          have HE2 : Hid (Eff (fun x => x = b) w (wr.setCell ⟨b, n / 64, none⟩ (.int .u64 v)).drew) := by
            have h := HE.out
            refine ⟨h.os, h.tape, h.output, ?_, fun j hj hn => ?_⟩
            · show w.heap.size ≤ (wr.setCell ⟨b, n / 64, none⟩ (.int .u64 v)).heap.size
              simpa [go_sem] using h.size
            · exact (Below.heap_setCell _ _ _ _ (by simpa using hn)).trans (h.block j hj hn)
          have h2 : (putS p (n : Int)).2 = p.2 + 1 := by rw [he.out]
          have H2 := hid h2
          clear done hor hpw hv hlt2 h2
          go_wp2
          exact ⟨⟨k + 1, by go_num, by rw [hsn.out, H2.out]; go_num, by omega, by rw [hsn.out]; exact Done.out, HE2.out⟩, by simp [intOf]; omega⟩
      · have hd' : dsecB x = false := by simpa using hd
        have hm := hid (c1.out x)
        rw [hd'] at hm
        have he : Hid (putS p x = p) := by show _ = _; rw [putS, hd']; rfl
        clear hd hd'
        go_wp2_with fail
        refine (hm.out _).mono ?_
        rintro e w' ⟨rfl, rfl⟩
        go_wp2
        exact ⟨⟨k + 1, by go_num, by rw [hsn.out, he.out], by omega, by rw [hsn.out, he.out]; exact ⟨HJ.out.1, HJ.out.2.1, HJ.out.2.2.1, by have := HJ.out.2.2.2; omega⟩, HE.out⟩, by simp [intOf]; omega⟩
    · have hke : l.take k = l := List.take_of_length_le (by omega)
      rw [hke] at HJ ⊢
      clear hke
      go_wp2
      go_ret
      exact ⟨rfl, HJ.out.1, HJ.out.2.1, HE.out⟩

theorem putS_bit (x : (Nat → Nat) × Nat) (n : Int) (k : Nat) (hk : k < 86400) : bitW (putS x n).1 k = (bitW x.1 k || decide ((k : Int) = n)) := by
  rw [putS]
  by_cases hd : dsecB n = true
  · obtain ⟨j, rfl, hj⟩ := dsecB_some hd
    rw [hd, Int.toNat_natCast]
    cases hb : bitW x.1 j
    · simp only [Bool.not_false, Bool.and_self, if_true]
      rw [bitW, bitW]
      by_cases e : k / 64 = j / 64
      · have e2 : decide (j % 64 = k % 64) = decide ((k : Int) = (j : Int)) := by
          rw [Bool.eq_iff_iff, decide_eq_true_eq, decide_eq_true_eq]
          omega
        simp only [e, if_true, Nat.testBit_or, Nat.testBit_two_pow, e2]
      · have h2 : decide ((k : Int) = (j : Int)) = false := decide_eq_false (by omega)
        simp only [e, if_false, h2, Bool.or_false]
    · simp only [Bool.not_true, Bool.and_false, Bool.false_eq_true, if_false]
      by_cases e : k = j
      · subst e; rw [hb]; rfl
      · rw [decide_eq_false (by omega), Bool.or_false]
  · have hd' : dsecB n = false := by simpa using hd
    have hne : ¬ (k : Int) = n := fun e => by
      subst e
      rw [dsecB_nat, decide_eq_true hk] at hd'
      cases hd'
    rw [hd', decide_eq_false hne]
    simp
theorem foldl_bit (k : Nat) (hk : k < 86400) : ∀ (l : List Int) (x : (Nat → Nat) × Nat), bitW (l.foldl putS x).1 k = (bitW x.1 k || decide ((k : Int) ∈ l))
  | [], x => by simp
  | n :: l, x => by
    rw [List.foldl_cons, foldl_bit k hk l, putS_bit x n k hk, Bool.or_assoc]
    congr 1
    rw [Bool.eq_iff_iff]
    simp
theorem putL_bit (f : Nat → Nat) (l : List Int) (k : Nat) (hk : k < 86400) : bitW (putL f l).1 k = (bitW f k || decide ((k : Int) ∈ l)) := foldl_bit k hk l (f, 0)
theorem putS_lt (x : (Nat → Nat) × Nat) (n : Int) (hx : ∀ i, i < 1350 → x.1 i < 18446744073709551616) : ∀ i, i < 1350 → (putS x n).1 i < 18446744073709551616 := by
  intro i hi
  rw [putS]
  split
  · rename_i h
    simp only [Bool.and_eq_true] at h
    obtain ⟨j, rfl, hj⟩ := dsecB_some h.1
    rw [Int.toNat_natCast]
    simp only []
    split
    · exact or_lt (hx _ (by omega)) (pow_lt (Nat.mod_lt _ (by omega)))
    · exact hx i hi
  · exact hx i hi
theorem foldl_lt : ∀ (l : List Int) (x : (Nat → Nat) × Nat), (∀ i, i < 1350 → x.1 i < 18446744073709551616) → ∀ i, i < 1350 → (l.foldl putS x).1 i < 18446744073709551616
  | [], x, hx => hx
  | n :: l, x, hx => foldl_lt l _ (putS_lt x n hx)
theorem putL_lt (f : Nat → Nat) (l : List Int) (hf : ∀ i, i < 1350 → f i < 18446744073709551616) : ∀ i, i < 1350 → (putL f l).1 i < 18446744073709551616 := foldl_lt l _ hf

theorem frozen_fresh (W : World) (c : Array Value) (t : TypeId) (i : Nat) : (W.alloc (.cells c t)).frozen? ⟨W.heap.size, i, none⟩ = false := by simp [go_sem]
/-- a disc: its words as they lie in block b, what it has -/
def DiscAt (W : World) (b : Nat) (q : Nat → Bool) : Prop := ∃ f : Nat → Nat, DC W b f ∧ (∀ i, W.frozen? ⟨b, i, none⟩ = false) ∧ (∀ i, i < 1350 → f i < 18446744073709551616) ∧ (∀ k, k < 86400 → bitW f k = q k) ∧ b < W.heap.size
theorem DiscAt.below {W W' : World} {b B : Nat} {q : Nat → Bool} (h : DiscAt W b q) (hb : Below B W W') (hB : b < B) : DiscAt W' b q := by
  obtain ⟨f, h1, h2, h3, h4, h5⟩ := h
  exact ⟨f, h1.below hb hB, fun i => (hb.frozen (p := ⟨b, i, none⟩) hB).trans (h2 i), h3, h4, Nat.lt_of_lt_of_le h5 hb.size⟩
def memD (l : List Int) (k : Nat) : Bool := decide ((k : Int) ∈ l)

set_option maxHeartbeats 1600000 in
theorem DOf_any (a : Option Addr) (cap : Nat) (l : List Int) (w : World) (hl : l.length ≤ 9223372036854775807) (hs : Sl w a (ints l)) :
    Calls Tryd.prog 5 #[.slice a l.length cap] w fun e w' => e = .returned (.pointer (some ⟨w.heap.size, 0, none⟩)) ∧ DiscAt w' w.heap.size (memD l) ∧ Below w.heap.size w w' := by
  obtain ⟨W1, hW1⟩ : ∃ W1, w.alloc (.cells zcells46 46) = W1 := ⟨_, rfl⟩
  have q1 : DC W1 w.heap.size (fun _ => 0) := by rw [← hW1]; exact dc_new w
  have q2 : ∀ i, W1.frozen? ⟨w.heap.size, i, none⟩ = false := fun i => by rw [← hW1]; exact frozen_fresh w _ _ i
  have q3 : Below w.heap.size w W1 := by rw [← hW1]; exact below_new (Below.refl _ _) (Nat.le_refl _)
  have q4 : W1.heap.size = w.heap.size + 1 := by rw [← hW1]; simp
  have c1 : Hid (Calls Tryd.prog 7 #[.pointer (some ⟨w.heap.size, 0, none⟩), .slice a l.length cap] W1 fun e w' => (∃ n : Nat, e = .returned (.int .i64 n)) ∧ DiscAt w' w.heap.size (memD l) ∧ Eff (fun x => x = w.heap.size) W1 w') := by
    refine (Put_any w.heap.size (fun _ => 0) a cap l W1 hl (hs.below q3) ?_ q1 q2 (fun _ _ => by omega)).mono fun e w' ⟨h1, h2, h3, h4⟩ => ⟨⟨_, h1⟩, ⟨_, h2, h3, putL_lt _ _ (fun _ _ => by omega), fun k hk => ?_, by have := h4.size; omega⟩, h4⟩
    · rintro hl g off rfl
      obtain ⟨g', off', e, hb, _⟩ := hs.atInt (k := 0) (List.length_pos_iff.mpr hl)
      cases e; omega
    · rw [putL_bit _ _ k hk, bitW, Nat.zero_testBit, Bool.false_or]; rfl
  have HW1 := hid hW1
  have Q3 := hid q3
  clear hW1 q1 q2 q3 hs
  go_enter Tryd.func5, Tryd.ntmps5
  go_wp2_with fail
  rw [HW1.out]
  refine c1.out.mono ?_
  rintro e w2 ⟨⟨n, rfl⟩, hd, hE⟩
  have Hd := hid hd
  have HE := hid hE
  clear hd hE
  go_wp2
  go_ret
  exact ⟨rfl, Hd.out, Q3.out.trans (HE.out.below (by rintro b rfl; exact Nat.le_refl _) (by omega))⟩
end Go.Proofs.YtchceegpbfecaaaDoor

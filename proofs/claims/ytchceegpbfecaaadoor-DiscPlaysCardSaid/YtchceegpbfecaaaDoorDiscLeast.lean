/-
  disc.least, with each of the two functions that it is handed.
-/
import Derived.Test.YtchceegpbfecaaaDoorDiscPut
import Derived.Test.YtchceegpbfecaaaDoorMaskTz
namespace Go.Proofs.YtchceegpbfecaaaDoor
open Go.RowKit
set_option linter.unusedVariables false

theorem bits_xor {a b : Nat} (ha : a < 18446744073709551616) (hb : b < 18446744073709551616) : bits .xor .u64 (a : Int) (b : Int) = ((a ^^^ b : Nat) : Int) := by
  show IntKind.u64.wrap ((BitVec.ofInt 64 (a : Int) ^^^ BitVec.ofInt 64 (b : Int)).toNat : Int) = _
  rw [BitVec.toNat_xor, ofInt_nat ha, ofInt_nat hb]
  exact wrap_nat (Nat.xor_lt_two_pow (n := 64) ha hb)

/-- a disc that may be nil -/
def dv : Option Nat → Value
  | none => .pointer none
  | some b => .pointer (some ⟨b, 0, none⟩)
def DW (W : World) : Option Nat → (Nat → Nat) → Prop
  | none, f => f = fun _ => 0
  | some b, f => DC W b f
theorem WordD_any (d : Option Nat) (f : Nat → Nat) (i : Nat) (w : World) (hc : DW w d f) (hi : i < 1350) :
    Calls Tryd.prog 30 #[dv d, .int .i64 i] w fun e w' => e = .returned (.int .u64 (f i : Nat)) ∧ w = w' := by
  match d, hc with
  | none, hc => rw [show f = fun _ => 0 from hc]; exact Word_nil i w
  | some b, hc => exact Word_any b f i w hc hi

def lackW (x y : Nat) : Nat := mk (fun k => x.testBit k && !y.testBit k)
theorem LacksFn_any (x y : Nat) (w : World) (hx : x < 18446744073709551616) (hy : y < 18446744073709551616) :
    Calls Tryd.prog 25 #[.int .u64 x, .int .u64 y] w fun e w' => e = .returned (.int .u64 (lackW x y : Nat)) ∧ w = w' := by
  have h := hid (bits_andNot hx hy)
  go_enter Tryd.func25, Tryd.ntmps25
  go_wp2
  go_ret
  rw [h.out]
  exact ⟨rfl, rfl⟩
/-- n, ok: the least second that p has -/
def FirstOf (p : Nat → Bool) (n : Int) (ok : Bool) : Prop :=
  (ok = true ∧ ∃ k : Nat, n = k ∧ k < 86400 ∧ p k = true ∧ ∀ j, j < k → p j = false) ∨ (ok = false ∧ n = 0 ∧ ∀ j, j < 86400 → p j = false)
theorem FirstOf.unique {p : Nat → Bool} {n n' : Int} {ok ok' : Bool} (h : FirstOf p n ok) (h' : FirstOf p n' ok') : n = n' ∧ ok = ok' := by
  rcases h with ⟨rfl, k, rfl, hk, h1, h2⟩ | ⟨rfl, rfl, h2⟩ <;> rcases h' with ⟨rfl, k', rfl, hk', h1', h2'⟩ | ⟨rfl, rfl, h2'⟩
  · refine ⟨?_, rfl⟩
    rcases Nat.lt_trichotomy k k' with h | h | h
    · rw [h2' k h] at h1; cases h1
    · rw [h]
    · rw [h2 k' h] at h1'; cases h1'
  · rw [h2' k hk] at h1; cases h1
  · rw [h2 k' hk'] at h1'; cases h1'
  · exact ⟨rfl, rfl⟩
/-- the least bit of the first word that isn't 0 -/
theorem first_word (h : Nat → Nat) (k : Nat) (hk : k < 1350) (hz : ∀ j, j < k → h j = 0) (hb : h k < 18446744073709551616) (hl : leastB (h k) = true) : FirstOf (bitW h) ((k : Int) * 64 + leastI (h k)) true := by
  have h0 : h k ≠ 0 := by simpa [leastB] using hl
  obtain ⟨h1, h2, h3⟩ := lsb_spec h0 hb
  refine .inl ⟨rfl, k * 64 + lsb (h k), by rw [leastI, if_neg h0]; simp, by omega, ?_, fun j hj => ?_⟩
  · rw [bitW, show (k * 64 + lsb (h k)) / 64 = k by omega, show (k * 64 + lsb (h k)) % 64 = lsb (h k) by omega]; exact h2
  · rw [bitW]
    by_cases e : j / 64 = k
    · rw [e]; exact h3 _ (by omega)
    · rw [hz (j / 64) (by omega), Nat.zero_testBit]
theorem leastI_bdD {m : Nat} (hm : m < 18446744073709551616) : 0 ≤ leastI m ∧ leastI m < 64 := by
  rw [leastI]
  split
  · omega
  · rename_i h0
    have := (lsb_spec h0 hm).1
    omega
theorem first_none (h : Nat → Nat) (hz : ∀ j, j < 1350 → h j = 0) : FirstOf (bitW h) 0 false := by
  refine .inr ⟨rfl, rfl, fun j hj => ?_⟩
  rw [bitW, hz (j / 64) (by omega), Nat.zero_testBit]

set_option maxRecDepth 100000 in
set_option maxHeartbeats 3200000 in
theorem leastLacks_any (d e : Option Nat) (f g : Nat → Nat) (w : World) (hT : Tab w) (hd : DW w d f) (he : DW w e g) (hf : ∀ i, i < 1350 → f i < 18446744073709551616) (hg : ∀ i, i < 1350 → g i < 18446744073709551616) :
    Calls Tryd.prog 24 #[dv d, dv e, .func (.func 25) #[] #[]] w fun r w' => (∃ n ok, r = .returned (.tuple #[.int .i64 n, .bool ok]) ∧ FirstOf (bitW (fun i => lackW (f i) (g i))) n ok) ∧ w = w' := by
  have c1 := hid (fun i hi => WordD_any d f i w hd hi)
  have c2 := hid (fun i hi => WordD_any e g i w he hi)
  have c3 := hid (fun i hi => LacksFn_any (f i) (g i) w (hf i hi) (hg i hi))
  have c4 := hid (fun m hm => Least_any m w hm hT)
  obtain ⟨h, hh⟩ : ∃ h : Nat → Nat, h = fun i => lackW (f i) (g i) := ⟨_, rfl⟩
  have hw : Hid (∀ i, i < 1350 → h i < 18446744073709551616) := fun i hi => by rw [hh]; exact mk_lt _
  have e3 : Hid (∀ i, i < 1350 → Calls Tryd.prog 25 #[.int .u64 (f i : Nat), .int .u64 (g i : Nat)] w fun e w' => e = .returned (.int .u64 (h i : Nat)) ∧ w = w') := fun i hi => by rw [hh]; exact c3.out i hi
  rw [← hh]
  obtain ⟨dp, hdp⟩ : ∃ v, dv d = v := ⟨_, rfl⟩
  obtain ⟨ep, hep⟩ : ∃ v, dv e = v := ⟨_, rfl⟩
  rw [hdp] at c1 ⊢
  rw [hep] at c2 ⊢
  clear hdp hep hd he hf hg hT hh c3
  go_enter Tryd.func24, Tryd.ntmps24
  go_wp2
  go_loopw [11] (fun i wr => ∃ k : Nat, i = .int .i64 k ∧ Hid (k ≤ 1350) ∧ Hid (∀ j, j < k → h j = 0) ∧ wr = w) (fun i _ => 1350 - (intOf i).toNat)
  case atStart => exact ⟨0, rfl, Nat.zero_le _, fun j hj => by omega, rfl⟩
  case round =>
    obtain ⟨k, rfl, hk, hz, rfl⟩ := hrel
    by_cases hlt : (k : Int) < 1350
    · have hk2 : k < 1350 := by omega
      have d1 := hid (c1.out k hk2)
      have d2 := hid (c2.out k hk2)
      have d3 := hid (e3.out k hk2)
      have d4 := hid (c4.out _ (hw.out k hk2))
      have hfw := hid (first_word h k hk2 hz.out (hw.out k hk2))
      obtain ⟨b1, b2⟩ := leastI_bdD (hw.out k hk2)
      have Hk2 := hid hk2
      have hb0 : Hid (leastB (h k) = false → h k = 0) := fun h => by simpa [leastB] using h
      obtain ⟨L, hL⟩ : ∃ L, leastI (h k) = L := ⟨_, rfl⟩
      rw [hL] at d4 hfw b1 b2
      clear hk2 hL
      cases hB : leastB (h k)
      · rw [hB] at d4
        have hz2 : Hid (∀ j, j < k + 1 → h j = 0) := fun j hj => by
          by_cases e : j = k
          · rw [e]; exact hb0.out hB
          · exact hz.out j (by omega)
        clear hB
        go_wp2_with fail
        refine d1.out.mono ?_
        rintro e w' ⟨rfl, rfl⟩
        go_wp2_with fail
        refine d2.out.mono ?_
        rintro e w' ⟨rfl, rfl⟩
        go_wp2_with fail
        refine d3.out.mono ?_
        rintro e w' ⟨rfl, rfl⟩
        go_wp2_with fail
        refine d4.out.mono ?_
        rintro e w' ⟨rfl, rfl⟩
        go_wp2
        exact ⟨⟨k + 1, by go_num, Hk2.out, hz2.out, by trivial⟩, by simp [intOf]; omega⟩
      · rw [hB] at d4
        have hr := hid (hfw.out hB)
        clear hB
        go_wp2_with fail
        refine d1.out.mono ?_
        rintro e w' ⟨rfl, rfl⟩
        go_wp2_with fail
        refine d2.out.mono ?_
        rintro e w' ⟨rfl, rfl⟩
        go_wp2_with fail
        refine d3.out.mono ?_
        rintro e w' ⟨rfl, rfl⟩
        go_wp2_with fail
        refine d4.out.mono ?_
        rintro e w' ⟨rfl, rfl⟩
        go_wp2
        go_ret2
        exact ⟨⟨_, _, rfl, hr.out⟩, rfl⟩
    · have hz2 : Hid (FirstOf (bitW h) 0 false) := first_none h (fun j hj => hz.out j (by omega))
      go_wp2
      go_ret2
      exact ⟨⟨_, .inl ⟨rfl, hz2.out⟩⟩, rfl⟩

theorem FirstOf.congr {p q : Nat → Bool} {n : Int} {ok : Bool} (h : FirstOf p n ok) (e : ∀ k, k < 86400 → p k = q k) : FirstOf q n ok := by
  rcases h with ⟨h1, k, h2, h3, h4, h5⟩ | ⟨h1, h2, h3⟩
  · exact .inl ⟨h1, k, h2, h3, by rw [← e k h3]; exact h4, fun j hj => by rw [← e j (by omega)]; exact h5 j hj⟩
  · exact .inr ⟨h1, h2, fun j hj => by rw [← e j hj]; exact h3 j hj⟩
/-- a disc that may be nil, what it has -/
def DiscV (W : World) : Option Nat → (Nat → Bool) → Prop
  | none, q => ∀ k, k < 86400 → q k = false
  | some b, q => DiscAt W b q
theorem DiscV.words {W : World} {d : Option Nat} {q : Nat → Bool} (h : DiscV W d q) : ∃ f, DW W d f ∧ (∀ i, i < 1350 → f i < 18446744073709551616) ∧ ∀ k, k < 86400 → bitW f k = q k := by
  match d, h with
  | none, h => exact ⟨fun _ => 0, rfl, fun _ _ => by show 0 < _; omega, fun k hk => by rw [bitW, Nat.zero_testBit]; exact (h k hk).symm⟩
  | some b, ⟨f, h1, h2, h3, h4, h5⟩ => exact ⟨f, h1, h3, h4⟩
theorem lackW_bit (f g : Nat → Nat) (k : Nat) : bitW (fun i => lackW (f i) (g i)) k = (bitW f k && !bitW g k) := by
  rw [bitW, bitW, bitW, lackW, mk_test, decide_eq_true (Nat.mod_lt _ (by omega)), Bool.true_and]
theorem xorW_bit (f g : Nat → Nat) (k : Nat) : bitW (fun i => f i ^^^ g i) k = (bitW f k != bitW g k) := by
  rw [bitW, bitW, bitW, Nat.testBit_xor]
theorem DLacks_any (d e : Option Nat) (p q : Nat → Bool) (w : World) (hT : Tab w) (hd : DiscV w d p) (he : DiscV w e q) :
    Calls Tryd.prog 17 #[dv d, dv e] w fun r w' => (∃ n ok, r = .returned (.tuple #[.int .i64 n, .bool ok]) ∧ FirstOf (fun k => p k && !q k) n ok) ∧ w = w' := by
  obtain ⟨f, f1, f2, f3⟩ := hd.words
  obtain ⟨g, g1, g2, g3⟩ := he.words
  have c1 := hid (leastLacks_any d e f g w hT f1 g1 f2 g2)
  have hb : Hid (∀ k, k < 86400 → bitW (fun i => lackW (f i) (g i)) k = (p k && !q k)) := fun k hk => by rw [lackW_bit, f3 k hk, g3 k hk]
  obtain ⟨dp, hdp⟩ : ∃ v, dv d = v := ⟨_, rfl⟩
  obtain ⟨ep, hep⟩ : ∃ v, dv e = v := ⟨_, rfl⟩
  rw [hdp] at c1 ⊢
  rw [hep] at c1 ⊢
  clear hdp hep hd he hT f1 f2 f3 g1 g2 g3
  go_enter Tryd.func17, Tryd.ntmps17
  go_wp2_with fail
  refine c1.out.mono ?_
  rintro r w' ⟨⟨n, ok, rfl, hF⟩, rfl⟩
  have HF := hid hF
  clear hF
  go_wp2
  go_ret2
  exact ⟨⟨n, ok, rfl, HF.out.congr hb.out⟩, rfl⟩
end Go.Proofs.YtchceegpbfecaaaDoor

/-
  What a disc's calls do to the seconds that it has: one second put in, one disc joined, its length, its next second, its telling.
-/
import Derived.Test.YtchceegpbfecaaaDoorDiscIter
import Derived.Test.YtchceegpbfecaaaDoorDiscNextFn
import Derived.Test.YtchceegpbfecaaaDoorDiscLen
import Derived.Test.YtchceegpbfecaaaDoorRangeH
namespace Go.Proofs.YtchceegpbfecaaaDoor
open Go.RowKit
set_option linter.unusedVariables false

theorem DiscAt.lt {W : World} {b : Nat} {q : Nat → Bool} (h : DiscAt W b q) : b < W.heap.size := by obtain ⟨f, _, _, _, _, h⟩ := h; exact h
theorem DiscAt.block {W W' : World} {b : Nat} {q : Nat → Bool} (h : DiscAt W b q) (hs : W.heap.size ≤ W'.heap.size) (hb : W'.heap[b]? = W.heap[b]?) : DiscAt W' b q := by
  obtain ⟨f, h1, h2, h3, h4, h5⟩ := h
  exact ⟨f, fun i hi => (World.cell?_of_block (w := W) (a := ⟨b, i, none⟩) hb).trans (h1 i hi), fun i => (World.frozen?_of_block (w := W) (a := ⟨b, i, none⟩) hb).trans (h2 i), h3, h4, Nat.lt_of_lt_of_le h5 hs⟩
theorem DiscAt.eff {W W' : World} {b : Nat} {q : Nat → Bool} {O : Blk} (h : DiscAt W b q) (hE : Eff O W W') (hn : ¬ O b) : DiscAt W' b q := h.block hE.size (hE.block b h.lt hn)
theorem DiscAt.congr {W : World} {b : Nat} {q q' : Nat → Bool} (h : DiscAt W b q) (e : ∀ k, k < 86400 → q k = q' k) : DiscAt W b q' := by
  obtain ⟨f, h1, h2, h3, h4, h5⟩ := h
  exact ⟨f, h1, h2, h3, fun k hk => (h4 k hk).trans (e k hk), h5⟩
theorem DiscAt.unique {W : World} {b : Nat} {q q' : Nat → Bool} (h : DiscAt W b q) (h' : DiscAt W b q') (k : Nat) (hk : k < 86400) : q k = q' k := by
  obtain ⟨f, h1, h2, h3, h4, h5⟩ := h
  obtain ⟨f', g1, g2, g3, g4, g5⟩ := h'
  rw [← h4 k hk, ← g4 k hk, bitW, bitW]
  have e := (h1 (k / 64) (by omega)).symm.trans (g1 (k / 64) (by omega))
  simp only [Option.some.injEq, Value.int.injEq, true_and] at e
  have e2 : f (k / 64) = f' (k / 64) := by omega
  rw [e2]
theorem DPut1_any (b : Nat) (q : Nat → Bool) (s : Int) (w : World) (hd : DiscAt w b q) :
    Calls Tryd.prog 7 #[.pointer (some ⟨b, 0, none⟩), .slice (some ⟨w.heap.size, 0, none⟩) 1 1] (w.alloc (.cells #[.int .i64 s] 3)) fun e w' => (∃ v, e = .returned v) ∧ DiscAt w' b (fun k => q k || decide ((k : Int) = s)) ∧ Eff (fun x => x = b) w w' := by
  obtain ⟨W1, hW1⟩ : ∃ W1, w.alloc (.cells #[.int .i64 s] 3) = W1 := ⟨_, rfl⟩
  have hb : Below w.heap.size w W1 := by rw [← hW1]; exact below_new (Below.refl _ _) (Nat.le_refl _)
  have hsl : Sl W1 (some ⟨w.heap.size, 0, none⟩) (ints [s]) := by
    refine .inr ⟨w.heap.size, 0, rfl, by rw [← hW1]; simp, fun j hj => ?_⟩
    have : j = 0 := by simp [ints] at hj; omega
    subst this
    rw [← hW1]; simp [go_sem, ints]
  rw [hW1]
  have hlt := hd.lt
  obtain ⟨f, h1, h2, h3, h4, h5⟩ := hd.below hb hlt
  refine (Put_any b f (some ⟨w.heap.size, 0, none⟩) 1 [s] W1 (by simp) hsl (fun _ g off e => by cases e; omega) h1 h2 h3).mono fun e w' ⟨g1, g2, g3, g4⟩ => ⟨⟨_, g1⟩, ⟨_, g2, g3, putL_lt _ _ h3, fun k hk => ?_, by have := g4.size; omega⟩, (Eff.of_below (O := fun x => x = b) hb).trans g4 (fun x hx => .inl hx)⟩
  rw [putL_bit _ _ k hk, h4 k hk]; simp
/-- a disc, or none -/
def DiscO (W : World) : Option Nat → (Nat → Bool) → Prop
  | none, q => ∀ k, k < 86400 → q k = false
  | some b, q => DiscAt W b q
def dptr : Option Nat → Value
  | none => .pointer none
  | some b => .pointer (some ⟨b, 0, none⟩)
theorem DiscO.v {W : World} {d : Option Nat} {q : Nat → Bool} (h : DiscO W d q) : DiscV W d q ∧ dv d = dptr d := by
  cases d with
  | none => exact ⟨h, rfl⟩
  | some b => obtain ⟨f, h1, h2, h3, h4, h5⟩ := h; exact ⟨⟨f, h1, h2, h3, h4, h5⟩, rfl⟩
theorem DiscO.congr {W : World} {d : Option Nat} {q q' : Nat → Bool} (h : DiscO W d q) (e : ∀ k, k < 86400 → q k = q' k) : DiscO W d q' := by
  cases d with
  | none => exact fun k hk => (e k hk).symm.trans (h k hk)
  | some b => exact DiscAt.congr h e
theorem DJoin1_any (b c : Nat) (q r : Nat → Bool) (w : World) (hd : DiscAt w b q) (hc : DiscAt w c r) (hne : c ≠ b) :
    Calls Tryd.prog 8 #[.pointer (some ⟨b, 0, none⟩), .slice (some ⟨w.heap.size, 0, none⟩) 1 1] (w.alloc (.cells #[.pointer (some ⟨c, 0, none⟩)] 25)) fun e w' => (∃ v, e = .returned v) ∧ DiscAt w' b (fun k => q k || r k) ∧ Eff (fun x => x = b) w w' := by
  obtain ⟨W1, hW1⟩ : ∃ W1, w.alloc (.cells #[.pointer (some ⟨c, 0, none⟩)] 25) = W1 := ⟨_, rfl⟩
  have hb : Below w.heap.size w W1 := by rw [← hW1]; exact below_new (Below.refl _ _) (Nat.le_refl _)
  have hbl := hd.lt
  have hcl := hc.lt
  obtain ⟨f, h1, h2, h3, h4, h5⟩ := hd.below hb hbl
  obtain ⟨g, g1, g2, g3, g4, g5⟩ := hc.below hb hcl
  have hsl : Sl W1 (some ⟨w.heap.size, 0, none⟩) (dvs [(some c, g)]) := by
    refine .inr ⟨w.heap.size, 0, rfl, by rw [← hW1]; simp, fun j hj => ?_⟩
    have : j = 0 := by simp [dvs] at hj; omega
    subst this
    rw [← hW1]; simp [go_sem, dvs, dv]
  rw [hW1]
  refine (DJoin_any b f (some ⟨w.heap.size, 0, none⟩) 1 [(some c, g)] W1 (by simp) hsl (fun _ x off e => by cases e; omega) (fun d hd => ?_) ⟨h1, h2, h3, Eff.refl _ _⟩).mono fun e w' ⟨k1, k2⟩ => ⟨k1, ⟨_, k2.words, k2.free, k2.bd, fun k hk => ?_, by have := k2.eff.size; omega⟩, (Eff.of_below (O := fun x => x = b) hb).trans k2.eff (fun x hx => .inl hx)⟩
  · rw [List.mem_singleton] at hd; subst hd
    exact ⟨g1, g3, fun x e => by cases e; exact ⟨hne, g5⟩⟩
  · show bitW (orL f [(some c, g)]) k = (q k || r k)
    rw [← h4 k hk, ← g4 k hk]; simp [orL, bitW, Nat.testBit_or]
theorem sel_lenW (f : Nat → Nat) (q : Nat → Bool) (h : ∀ k, k < 86400 → bitW f k = q k) : lenW f 1350 = (secL q).length := by
  rw [← wupto_len, wupto_sel, secL]
  exact congrArg List.length (sel_congr h)
theorem DLenO_any (d : Option Nat) (q : Nat → Bool) (w : World) (h : DiscO w d q) : Calls Tryd.prog 13 #[dptr d] w fun e w' => e = .returned (.int .i64 ((secL q).length : Nat)) ∧ w = w' := by
  cases d with
  | none =>
    have e : (secL q).length = 0 := by rw [secL, sel_none h]; rfl
    rw [e]
    show Calls Tryd.prog 13 #[.pointer none] w _
    go_enter Tryd.func13, Tryd.ntmps13
    go_wp2
    go_ret
    exact ⟨rfl, rfl⟩
  | some b =>
    obtain ⟨f, h1, h2, h3, h4, h5⟩ := h
    rw [← sel_lenW f q h4]
    exact DLen_any b f w h1 h3
theorem DHasO_any (d : Option Nat) (q : Nat → Bool) (n : Int) (w : World) (h : DiscO w d q) : Calls Tryd.prog 14 #[dptr d, .int .i64 n] w fun e w' => e = .returned (.bool (dsecB n && q n.toNat)) ∧ w = w' := by
  cases d with
  | none =>
    have e : (dsecB n && q n.toNat) = false := by
      cases hd : dsecB n
      · rfl
      · obtain ⟨k, rfl, hk⟩ := dsecB_some hd
        rw [Int.toNat_natCast, h k hk]; rfl
    rw [e]; exact DHas_nil n w
  | some b =>
    obtain ⟨f, h1, h2, h3, h4, h5⟩ := h
    have e : (dsecB n && q n.toNat) = hasD f n := by
      rw [hasD]
      cases hd : dsecB n
      · rfl
      · obtain ⟨k, rfl, hk⟩ := dsecB_some hd
        rw [Int.toNat_natCast, h4 k hk]
    rw [e]; exact DHas_any b f n w h1 h3
set_option maxHeartbeats 1600000 in
/-- Next, from any second on -/
theorem DNextO_any (d : Option Nat) (q : Nat → Bool) (s : Int) (w : World) (h1 : 0 ≤ s) (hs1 : s ≤ 9223372036854775807) (hT : Tab w) (h : DiscO w d q) :
    Calls Tryd.prog 16 #[dptr d, .int .i64 s] w fun r w' => (∃ n ok, r = .returned (.tuple #[.int .i64 n, .bool ok]) ∧ FirstOf (fun k => q k && decide (s ≤ k)) n ok) ∧ w = w' := by
  cases d with
  | none =>
    show Calls Tryd.prog 16 #[.pointer none, .int .i64 s] w _
    have hno : Hid (FirstOf (fun k => q k && decide (s ≤ k)) 0 false) := .inr ⟨rfl, rfl, fun k hk => by show (q k && _) = false; rw [h k hk]; rfl⟩
    have hmx : max s 0 = s := by omega
    clear h hT hs1
    go_enter Tryd.func16, Tryd.ntmps16
    go_wp2
    go_ret2
    exact ⟨⟨_, _, rfl, hno.out⟩, rfl⟩
  | some b =>
    by_cases h0 : 86400 ≤ s
    · show Calls Tryd.prog 16 #[.pointer (some ⟨b, 0, none⟩), .int .i64 s] w _
      have hno : Hid (FirstOf (fun k => q k && decide (s ≤ k)) 0 false) := .inr ⟨rfl, rfl, fun k hk => by show (q k && _) = false; rw [decide_eq_false (by omega), Bool.and_false]⟩
      have c1 := hid (DMay_any s w)
      have hd : dsecB s = false := by rw [dsecB, decide_eq_false (show ¬ s < 86400 by omega), Bool.and_false]
      rw [hd] at c1
      have hmx : max s 0 = s := by omega
      have hs2 : 0 < s := by omega
      clear h hT hs1 hd
      go_enter Tryd.func16, Tryd.ntmps16
      go_wp2_with fail
      refine c1.out.mono ?_
      rintro e w' ⟨rfl, rfl⟩
      go_wp2
      go_ret2
      exact ⟨⟨_, _, rfl, hno.out⟩, rfl⟩
    · obtain ⟨k, rfl⟩ : ∃ k : Nat, s = k := ⟨s.toNat, by omega⟩
      refine (DcNext_any b q k w (by omega) hT h).mono fun e w' ⟨⟨n, ok, he, hf⟩, hw⟩ => ⟨⟨n, ok, he, hf.congr fun j hj => ?_⟩, hw⟩
      simp
end Go.Proofs.YtchceegpbfecaaaDoor

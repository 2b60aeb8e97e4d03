/-
  rule.which, rule.Plain, unit.Name, rule.head.
-/
import Derived.Test.YtndfckpcbiecnaaRuleBase
import Derived.Test.YtndfckpcbiecnaaUnits
namespace Go.Proofs.Ytndfckpcbiecnaa
open Go.RowKit
set_option linter.unusedVariables false

set_option maxHeartbeats 1600000 in
theorem RuWhich_any (r : Ru) (w : World) (hr : RuS w r) (hm : r.l7.length ≤ 1000000) :
    Calls Try.prog 75 #[ruv r] w fun e w' => ∃ v, e = .returned v ∧ w'.ownsRow w.heap.size 3 1 v r.l7.length (ints (nsL r)) ∧ Below w.heap.size w w' := by
  have Hs := hid hr.s7
  have hlI : (r.l7.length : Int) ≤ 1000000 := by omega
  have HB0 : Below w.heap.size w (w.alloc (.cells (ruList r).toArray 34)) := below_new (Below.refl _ _) (Nat.le_refl _)
  have Hsn := hid (map_snoc r.l7)
  have Hln : Hid ((nsL r).length = r.l7.length) := List.length_map _
  obtain ⟨m, hmm⟩ : ∃ m, nsL r = m := ⟨_, rfl⟩
  rw [show r.l7.map (·.1) = nsL r from rfl] at Hsn
  rw [hmm] at Hsn Hln ⊢
  have HB := hid HB0
  clear hmm hr HB0
  go_enter Try.func75, Try.ntmps75
  go_wp2
  go_loopw [3, 9] (fun v i wr => ∃ (k cp : Nat) (ad : Option Addr), i = .int .i64 k ∧ k ≤ r.l7.length ∧ v = .slice ad k cp ∧ wr.ownsRow w.heap.size 3 1 (.slice ad k cp) k (ints (m.take k)) ∧ Below w.heap.size w wr) (fun _ i _ => r.l7.length - (intOf i).toNat)
  case atStart => exact ⟨0, 0, none, rfl, by omega, rfl, World.ownsRow_nil _ _ _ _, HB.out⟩
  case round =>
    obtain ⟨k, cp, ad, rfl, hk, rfl, hown, hB⟩ := hrel
    by_cases hlt : k < r.l7.length
    · obtain ⟨b, off, ha7, hb, hc⟩ := Hs.out.atNth hlt
      have e1 := (hB.cell (p := ⟨b, off + k * 2, none⟩) hb).trans (hc k hlt).1
      have e2 := (hB.cell (p := ⟨b, off + k * 2 + 1, none⟩) hb).trans (hc k hlt).2
      have ht := hid (Hsn.out k hlt)
      have hsz := hB.size
      obtain ⟨y, hy⟩ : ∃ y, r.l7[k] = y := ⟨_, rfl⟩
      rw [hy] at e1 e2 ht
      rw [ha7]
      have hown' := append_base wr (.cells #[.int .i64 y.1, .int .i64 y.2] 37) hown
      have hn := below_new (o := .cells #[.int .i64 y.1, .int .i64 y.2] 37) hB hsz
      have hsz' : w.heap.size ≤ (wr.alloc (.cells #[.int .i64 y.1, .int .i64 y.2] 37)).heap.size := hn.size
      clear hc hy
      go_wp2_with (at_builtin; refine app1 eInt (.tmp 13) (.tmp 16) rfl rfl rfl rfl (by simp only [World.size_alloc]) hown' rfl (by omega) (by omega) hsz' ?_)
      intro a' cap' w' hown2 hg2 hb2 hf2
      have hB2 := hn.trans hb2
      rw [← ht.out] at hown2
      go_wp2
      exact ⟨⟨k + 1, cap', a', by go_num, by omega, rfl, hown2, hB2⟩, by simp [intOf]; omega⟩
    · have hke : k = r.l7.length := by omega
      have Hke := hid hke
      clear hke
      go_wp2
      go_ret
      refine ⟨_, rfl, ?_, hB⟩
      have h := hown
      rw [Hke.out, ← Hln.out, List.take_length, Hln.out] at h
      rw [Hke.out]
      exact h
theorem Plain_any (r : Ru) (w : World) (hr : RuS w r) (hm : r.l7.length ≤ 1000000) :
    Calls Try.prog 22 #[ruv r] w fun e w' => e = .returned (.bool (!outB 0 0 (nsL r))) ∧ Below w.heap.size w w' := by
  have hB0 : Below w.heap.size w (w.alloc (.cells (ruList r).toArray 34)) := below_new (Below.refl _ _) (Nat.le_refl _)
  have c1 := hid (RuWhich_any r _ (hr.below hB0) hm)
  have c2 := hid (fun a cap W hl hs => Outside_any a cap (nsL r) 0 0 W hl hs)
  have Hln : Hid ((nsL r).length = r.l7.length) := List.length_map _
  have HB0 := hid hB0
  have Hm := hid hm
  obtain ⟨m, hmm⟩ : ∃ m, nsL r = m := ⟨_, rfl⟩
  rw [hmm] at c1 c2 Hln ⊢
  clear hmm hr hB0 hm
  go_enter Try.func22, Try.ntmps22
  go_wp2_with fail
  refine c1.out.mono ?_
  rintro e w1 ⟨v, rfl, hown, hB1⟩
  obtain ⟨a, cap, rfl, hsl, -⟩ := owns_form hown
  have HB1 := hid (HB0.out.trans (hB1.mono HB0.out.size))
  have Hsl := hid hsl
  clear hown hB1 hsl
  rw [← Hln.out]
  go_wp2_with fail
  refine (c2.out a cap w1 (by have := Hln.out; have := Hm.out; omega) Hsl.out).mono ?_
  rintro e w2 ⟨rfl, hB2⟩
  have HB2 := hid (HB1.out.trans (hB2.mono HB1.out.size))
  clear hB2
  go_wp2
  go_ret
  exact ⟨rfl, HB2.out⟩
end Go.Proofs.Ytndfckpcbiecnaa

/-
  The function that mask.All makes, told to a client that may ask what has turned.
-/
import Derived.Test.YtdggflkkojmabaaDoorRange2
import Derived.TacticsInMore
import Derived.LoopNIn
import Derived.LoopIn
namespace Go.Proofs.YtdggflkkojmabaaDoor
open Go.RowKit
set_option linter.unusedVariables false
attribute [local go_sem] Oper.semAt_some

set_option maxRecDepth 100000 in
set_option maxHeartbeats 1600000 in
theorem MaskIter2_any (m b : Nat) (y : Value) (J Jx : Nat → (Nat → Prop) → World → Prop) (O : Nat → Prop) (W : World) (hm : m < 18446744073709551616) (hC : Client2 Tryd.prog y (sel m.testBit 64) J Jx O W) (hJ : J 0 O W)
    (hb : b < W.heap.size) (hbO : ¬ O b) (hbox : W.cell? ⟨b, 0, none⟩ = some (.int .u64 m)) (hT : Tab W) (hTO : ¬ O 0) :
    Calls Tryd.prog 80 #[y, .pointer (some ⟨b, 0, none⟩)] W fun e W' => (∃ v, e = .returned v) ∧ Told (sel m.testBit 64) J Jx O W W' := by
  refine (wf_calls (r := none) (n := 1)).mp ?_
  have HC := hid hC
  have HT := hid hT
  have HJ := hid hJ
  have HO := hid hbO
  have HTO := hid hTO
  have hl := least_at hm
  have cn := hid (fun k hk => next_at hm k hk)
  have cb := hid (fun k hk => sel_bd (p := m.testBit) k hk)
  have cl := hid (fun k hj hk => sel_less (p := m.testBit) k hj hk)
  have c1 := hid (fun W (h : Tab W) => Least_any m W hm h)
  have c2 := hid (fun n W (h : Tab W) => Next_any m n W hm h)
  rw [hl.1, hl.2] at c1
  obtain ⟨l, hle⟩ : ∃ l, sel m.testBit 64 = l := ⟨_, rfl⟩
  rw [hle] at HC c1 cn cb cl ⊢
  clear hl hle hC hT hJ hbO hTO
  gi_enter Tryd.func80, Tryd.ntmps80
  gi_wp2_with fail
  refine (wf_calls.mpr (c1.out _ HT.out)).mono ?_
  rintro e w' ⟨rfl, rfl⟩
  gi_wp2_with fail
  gi_loopw [3, 4] (fun nv ok wr => ∃ (k : Nat) (O' : Nat → Prop), nv = .int .i64 (l.getD k 0) ∧ ok = .bool (decide (k < l.length)) ∧ k ≤ l.length ∧ Hid (J k O' wr ∧ (∀ b, O b → O' b) ∧ (∀ b, O' b → O b ∨ W.heap.size ≤ b) ∧ Eff O W wr)) (fun nv ok wr => twOf ok * (64 - intOf nv).toNat)
  case atStart => exact ⟨0, O, rfl, rfl, by omega, HJ.out, fun _ h => h, fun _ h => .inl h, Eff.refl _ _⟩
  case round =>
    obtain ⟨k, O', rfl, rfl, hk, hI⟩ := hrel
    by_cases hlt : k < l.length
    · obtain ⟨x, hx⟩ : ∃ x, l[k] = x := ⟨_, rfl⟩
      have hgd : l.getD k 0 = x := by rw [List.getD_eq_getElem?_getD, List.getElem?_eq_getElem hlt]; exact hx
      have hok : decide (k < l.length) = true := by simp [hlt]
      have hbd := cb.out k hlt
      have hnx := cn.out k hlt
      have hcall := HC.out.call k O' wr hlt hI.out.1 ⟨hI.out.2.1, hI.out.2.2.1, hI.out.2.2.2⟩
      rw [hx] at hbd hnx hcall
      have Hnx := hid hnx
      have Hcall := hid hcall
      have Hx := hid hx
      obtain ⟨x1, x2⟩ := hbd
      rw [hgd, hok]
      clear hgd hok hnx hcall hx
      gi_wp2_with (refine callv (.tmp 17) (.tmp 18) _ rfl rfl rfl rfl Hcall.out ?_)
      rintro e W2 O2 hOO hO2 hE hend
      have hE2 : Eff O W W2 := hI.out.2.2.2.trans hE hI.out.2.2.1
      have hbox2 := (hE2.cell (p := ⟨b, 0, none⟩) hb HO.out).trans hbox
      have hT2 := hid (HT.out.eff hE2 HTO.out)
      have hOs : Hid ((∀ b, O b → O2 b) ∧ (∀ b, O2 b → O b ∨ W.heap.size ≤ b) ∧ Eff O W W2) := ⟨fun b h => hOO b (hI.out.2.1 b h), fun b h => by
        rcases hO2 b h with h1 | h1
        · exact hI.out.2.2.1 b h1
        · have := hI.out.2.2.2.size; exact .inr (by omega), hE2⟩
      clear hOO hO2 hE hE2 hI
      rcases hend with ⟨rfl, hJ2⟩ | ⟨rfl, hJ2⟩
      · have HJ2 := hid hJ2
        clear hJ2
        refine ⟨_, rfl, ?_⟩
        gi_wp2_with fail
        refine (wf_calls.mpr (c2.out x _ hT2.out)).mono ?_
        rintro e w' ⟨rfl, rfl⟩
        rw [Hnx.out.1, Hnx.out.2]
        gi_wp2
        refine ⟨⟨k + 1, O2, by rw [List.getD_eq_getElem?_getD], rfl, by omega, HJ2.out, hOs.out.1, hOs.out.2.1, hOs.out.2.2⟩, ?_⟩
        by_cases h2 : k + 1 < l.length
        · have h3 := cl.out k hlt h2
          rw [Hx.out] at h3
          have h4 := cb.out (k + 1) h2
          simp only [h2, decide_true, twOf, intOf, List.getElem?_eq_getElem h2, Option.getD_some]
          omega
        · simp only [h2, decide_false, twOf, intOf]
          omega
      · have HJ2 := hid hJ2
        clear hJ2
        refine ⟨_, rfl, ?_⟩
        gi_wp2
        refine bodyPost_ret (results_none rfl _ _ _) rfl ?_
        exact ⟨⟨_, rfl⟩, O2, hOs.out.1, hOs.out.2.1, hOs.out.2.2, .inr ⟨k + 1, by omega, by omega, HJ2.out⟩⟩
    · have hok : decide (k < l.length) = false := by simp; omega
      obtain rfl : k = l.length := by omega
      rw [hok]
      clear hok
      gi_wp2
      go_end0
      exact ⟨⟨_, rfl⟩, O', hI.out.2.1, hI.out.2.2.1, hI.out.2.2.2, .inl hI.out.1⟩

theorem mask_tells2 (m b : Nat) (Ow : Nat → Prop) (w : World) (hm : m < 18446744073709551616) (hb : b < w.heap.size) (hbO : ¬ Ow b) (hbox : w.cell? ⟨b, 0, none⟩ = some (.int .u64 m)) (hT : Tab w) (hTO : ¬ Ow 0) :
    Tells2 Tryd.prog 80 #[.pointer (some ⟨b, 0, none⟩)] (sel m.testBit 64) Ow w := by
  intro y J Jx O W hO hB hC hJ
  exact MaskIter2_any m b y J Jx O W hm hC hJ (Nat.lt_of_lt_of_le hb hB.size) (fun h => by rcases hO b h with h1 | h1; exact hbO h1; omega) ((hB.cell (p := ⟨b, 0, none⟩) hb).trans hbox) (hT.later hB) (fun h => by rcases hO _ h with h1 | h1; exact hTO h1; have := hT.1; omega)
end Go.Proofs.YtdggflkkojmabaaDoor

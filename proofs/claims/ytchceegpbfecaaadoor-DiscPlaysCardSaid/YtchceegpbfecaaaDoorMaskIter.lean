/-
  The function that mask.All makes tells the numbers of its mask, rising, as long as more are wanted.
-/
import Derived.Test.YtchceegpbfecaaaDoorIter
import Derived.TacticsInMore
import Derived.LoopNIn
import Derived.LoopIn
namespace Go.Proofs.YtchceegpbfecaaaDoor
open Go.RowKit
set_option linter.unusedVariables false

theorem sel_rising (p : Nat → Bool) : ∀ n, (sel p n).Pairwise (· < ·)
  | 0 => by simp [sel_zero]
  | n + 1 => by
    by_cases h : p n = true
    · rw [sel_yes h, List.pairwise_append]
      refine ⟨sel_rising p n, by simp, fun x hx y hy => ?_⟩
      obtain ⟨k, hk, _, rfl⟩ := sel_mem.mp hx
      obtain rfl : y = (n : Int) := by simpa using hy
      omega
    · rw [sel_no (by simpa using h)]; exact sel_rising p n
theorem wantF_skip (n : Int) (r : List Int) : ∀ l : List Int, (∀ x ∈ l, ¬ n < x) → wantF n (l ++ r) = wantF n r
  | [], _ => rfl
  | x :: xs, h => by rw [List.cons_append, wantF, if_neg (h x (by simp)), wantF_skip n r xs (fun z hz => h z (by simp [hz]))]
theorem wantF_next {l : List Int} (h : l.Pairwise (· < ·)) (k : Nat) (hk : k < l.length) : wantF l[k] l = if hn : k + 1 < l.length then l[k + 1] else -1 := by
  have h1 : wantF l[k] l = wantF l[k] (l.drop (k + 1)) := by
    have gen : ∀ x, (∀ y ∈ l.take (k + 1), ¬ x < y) → wantF x l = wantF x (l.drop (k + 1)) := fun x hx => by
      have := wantF_skip x (l.drop (k + 1)) (l.take (k + 1)) hx
      rwa [List.take_append_drop] at this
    refine gen _ (fun x hx => ?_)
    obtain ⟨j, hj, rfl⟩ := List.mem_take_iff_getElem.mp hx
    have hj' : j ≤ k := by omega
    rcases Nat.lt_or_ge j k with hjk | hjk
    · have := List.pairwise_iff_getElem.mp h j k (by omega) hk hjk; omega
    · obtain rfl : j = k := by omega
      omega
  rw [h1]
  by_cases hn : k + 1 < l.length
  · rw [dif_pos hn, List.drop_eq_getElem_cons hn, wantF, if_pos (List.pairwise_iff_getElem.mp h k (k + 1) hk hn (by omega))]
  · rw [dif_neg hn, List.drop_of_length_le (by omega)]; rfl

theorem sel_nonneg {p : Nat → Bool} {n : Nat} (k : Nat) (hk : k < (sel p n).length) : 0 ≤ (sel p n)[k] := by
  obtain ⟨j, _, _, e⟩ := sel_mem.mp (List.getElem_mem hk)
  omega
theorem next_at {m : Nat} (hm : m < 18446744073709551616) (k : Nat) (hk : k < (sel m.testBit 64).length) :
    leastB (aboveM m (sel m.testBit 64)[k]) = decide (k + 1 < (sel m.testBit 64).length) ∧ leastI (aboveM m (sel m.testBit 64)[k]) = (sel m.testBit 64).getD (k + 1) 0 := by
  have hw := wantF_next (sel_rising m.testBit 64) k hk
  by_cases ha : aboveM m (sel m.testBit 64)[k] = 0
  · rw [want_no _ hm ha] at hw
    have hn : ¬ k + 1 < (sel m.testBit 64).length := fun hn => by
      rw [dif_pos hn] at hw
      have := sel_nonneg (k + 1) hn
      omega
    rw [ha]
    refine ⟨by simp [leastB, hn], ?_⟩
    rw [List.getD_eq_getElem?_getD, List.getElem?_eq_none (by omega)]; rfl
  · rw [want_yes _ hm ha] at hw
    have hn : k + 1 < (sel m.testBit 64).length := Decidable.byContradiction fun hn => by
      rw [dif_neg hn] at hw; omega
    rw [dif_pos hn] at hw
    refine ⟨by simp [leastB, hn, ha], ?_⟩
    rw [leastI, if_neg ha, hw, List.getD_eq_getElem?_getD, List.getElem?_eq_getElem hn]; rfl
theorem least_at {m : Nat} (hm : m < 18446744073709551616) : leastB m = decide (0 < (sel m.testBit 64).length) ∧ leastI m = (sel m.testBit 64).getD 0 0 := by
  by_cases h0 : m = 0
  · rw [first_no h0]; simp [leastB, leastI, h0]
  · obtain ⟨bs, hb⟩ := first_yes hm h0
    rw [hb]; simp [leastB, leastI, h0]

attribute [local go_sem] Oper.semAt_some
theorem Tab.eff {O : Nat → Prop} {W W' : World} (h : Tab W) (hE : Eff O W W') (hn : ¬ O 0) : Tab W' :=
  ⟨Nat.lt_of_lt_of_le h.1 hE.size, fun i hi => (hE.cell (p := ⟨0, i, none⟩) h.1 hn).trans (h.2 i hi)⟩
def twOf : Value → Nat
  | .bool true => 1
  | _ => 0
theorem sel_bd {p : Nat → Bool} (k : Nat) (hk : k < (sel p 64).length) : 0 ≤ (sel p 64)[k] ∧ (sel p 64)[k] ≤ 63 := by
  obtain ⟨j, hj, _, e⟩ := sel_mem.mp (List.getElem_mem hk)
  omega
theorem sel_less {p : Nat → Bool} (k : Nat) (hj : k < (sel p 64).length) (hk : k + 1 < (sel p 64).length) : (sel p 64)[k] < (sel p 64)[k + 1] :=
  List.pairwise_iff_getElem.mp (sel_rising p 64) k (k + 1) (by omega) hk (by omega)

set_option maxRecDepth 100000 in
set_option maxHeartbeats 1600000 in
theorem MaskIter_any (m b : Nat) (y : Value) (J Jx : Nat → (Nat → Prop) → World → Prop) (O : Nat → Prop) (W : World) (hm : m < 18446744073709551616) (hC : Client Tryd.prog y (sel m.testBit 64) J Jx) (hJ : J 0 O W)
    (hb : b < W.heap.size) (hbO : ¬ O b) (hbox : W.cell? ⟨b, 0, none⟩ = some (.int .u64 m)) (hT : Tab W) (hTO : ¬ O 0) :
    Calls Tryd.prog 31 #[y, .pointer (some ⟨b, 0, none⟩)] W fun e W' => (∃ v, e = .returned v) ∧ Told (sel m.testBit 64) J Jx O W W' := by
  refine (wf_calls (r := none) (n := 1)).mp ?_
  have HC := hid hC
  have HT := hid hT
  have HJ := hid hJ
  have HO := hid hbO
  have HTO := hid hTO
  have hl := least_at hm
  have cn := hid (fun k hk => next_at hm k hk)
  have cb := hid (fun k hk => sel_bd (p := m.testBit) k hk)
  have cl := hid (fun k hj hk => sel_less (p := m.testBit) k hj hk)
  have c1 := hid (fun W (h : Tab W) => Least_any m W hm h)
  have c2 := hid (fun n W (h : Tab W) => Next_any m n W hm h)
  rw [hl.1, hl.2] at c1
  obtain ⟨l, hle⟩ : ∃ l, sel m.testBit 64 = l := ⟨_, rfl⟩
  rw [hle] at HC c1 cn cb cl ⊢
  clear hl hle hC hT hJ hbO hTO
  gi_enter Tryd.func31, Tryd.ntmps31
  gi_wp2_with fail
  refine (wf_calls.mpr (c1.out _ HT.out)).mono ?_
  rintro e w' ⟨rfl, rfl⟩
  gi_wp2_with fail
  gi_loopw [3, 4] (fun nv ok wr => ∃ (k : Nat) (O' : Nat → Prop), nv = .int .i64 (l.getD k 0) ∧ ok = .bool (decide (k < l.length)) ∧ k ≤ l.length ∧ Hid (J k O' wr ∧ (∀ b, O b → O' b) ∧ (∀ b, O' b → O b ∨ W.heap.size ≤ b) ∧ Eff O W wr)) (fun nv ok wr => twOf ok * (64 - intOf nv).toNat)
  case atStart => exact ⟨0, O, rfl, rfl, by omega, HJ.out, fun _ h => h, fun _ h => .inl h, Eff.refl _ _⟩
  case round =>
    obtain ⟨k, O', rfl, rfl, hk, hI⟩ := hrel
    by_cases hlt : k < l.length
    · obtain ⟨x, hx⟩ : ∃ x, l[k] = x := ⟨_, rfl⟩
      have hgd : l.getD k 0 = x := by rw [List.getD_eq_getElem?_getD, List.getElem?_eq_getElem hlt]; exact hx
      have hok : decide (k < l.length) = true := by simp [hlt]
      have hbd := cb.out k hlt
      have hnx := cn.out k hlt
      have hcall := HC.out.call k O' wr hlt hI.out.1
      rw [hx] at hbd hnx hcall
      have Hnx := hid hnx
      have Hcall := hid hcall
      have Hx := hid hx
      obtain ⟨x1, x2⟩ := hbd
      rw [hgd, hok]
      clear hgd hok hnx hcall hx
      gi_wp2_with (refine callv (.tmp 17) (.tmp 18) _ rfl rfl rfl rfl Hcall.out ?_)
      rintro e W2 O2 hOO hO2 hE hend
      have hE2 : Eff O W W2 := hI.out.2.2.2.trans hE hI.out.2.2.1
      have hbox2 := (hE2.cell (p := ⟨b, 0, none⟩) hb HO.out).trans hbox
      have hT2 := hid (HT.out.eff hE2 HTO.out)
      have hOs : Hid ((∀ b, O b → O2 b) ∧ (∀ b, O2 b → O b ∨ W.heap.size ≤ b) ∧ Eff O W W2) := ⟨fun b h => hOO b (hI.out.2.1 b h), fun b h => by
        rcases hO2 b h with h1 | h1
        · exact hI.out.2.2.1 b h1
        · have := hI.out.2.2.2.size; exact .inr (by omega), hE2⟩
      clear hOO hO2 hE hE2 hI
      rcases hend with ⟨rfl, hJ2⟩ | ⟨rfl, hJ2⟩
      · have HJ2 := hid hJ2
        clear hJ2
        refine ⟨_, rfl, ?_⟩
        gi_wp2_with fail
        refine (wf_calls.mpr (c2.out x _ hT2.out)).mono ?_
        rintro e w' ⟨rfl, rfl⟩
        rw [Hnx.out.1, Hnx.out.2]
        gi_wp2
        refine ⟨⟨k + 1, O2, by rw [List.getD_eq_getElem?_getD], rfl, by omega, HJ2.out, hOs.out.1, hOs.out.2.1, hOs.out.2.2⟩, ?_⟩
        by_cases h2 : k + 1 < l.length
        · have h3 := cl.out k hlt h2
          rw [Hx.out] at h3
          have h4 := cb.out (k + 1) h2
          simp only [h2, decide_true, twOf, intOf, List.getElem?_eq_getElem h2, Option.getD_some]
          omega
        · simp only [h2, decide_false, twOf, intOf]
          omega
      · have HJ2 := hid hJ2
        clear hJ2
        refine ⟨_, rfl, ?_⟩
        gi_wp2
        refine bodyPost_ret (results_none rfl _ _ _) rfl ?_
        exact ⟨⟨_, rfl⟩, O2, hOs.out.1, hOs.out.2.1, hOs.out.2.2, .inr ⟨k + 1, by omega, by omega, HJ2.out⟩⟩
    · have hok : decide (k < l.length) = false := by simp; omega
      obtain rfl : k = l.length := by omega
      rw [hok]
      clear hok
      gi_wp2
      go_end0
      exact ⟨⟨_, rfl⟩, O', hI.out.2.1, hI.out.2.2.1, hI.out.2.2.2, .inl hI.out.1⟩
end Go.Proofs.YtchceegpbfecaaaDoor

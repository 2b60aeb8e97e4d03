/-
  The seconds of a disc, told and collected in a list: ferialaw15.Told.
-/
import Derived.Test.YtchceegpbfecaaaDoorDiscSet
import Derived.Test.YtchceegpbfecaaaDoorCollectAll
namespace Go.Proofs.YtchceegpbfecaaaDoor
open Go.RowKit
set_option linter.unusedVariables false
attribute [local go_sem] zvalw znew

set_option maxRecDepth 100000 in
set_option maxHeartbeats 1600000 in
theorem DcAllNil_any (w : World) :
    Calls Tryd.prog 19 #[.pointer none] w fun e w' => e = .returned (.func (.func 26) #[] #[.pointer (some ⟨w.heap.size, 0, none⟩)]) ∧ DC w' w.heap.size (fun _ => 0) ∧ Below w.heap.size w w' ∧ w.heap.size < w'.heap.size := by
  obtain ⟨W1, hW1⟩ : ∃ W1, w.alloc (.cells zcells44 44) = W1 := ⟨_, rfl⟩
  have q1 : DC W1 w.heap.size (fun _ => 0) := by rw [← hW1]; exact dc_new' w
  have q3 : Below w.heap.size w W1 := by rw [← hW1]; exact below_new (Below.refl _ _) (Nat.le_refl _)
  have q4 : W1.heap.size = w.heap.size + 1 := by rw [← hW1]; simp
  have Q := hid (And.intro q1 (And.intro q3 (show w.heap.size < W1.heap.size by omega)))
  have HW1 := hid hW1
  clear hW1 q1 q3 q4
  go_enter Tryd.func19, Tryd.ntmps19
  go_wp2_with fail
  try rw [HW1.out]
  try go_wp2
  go_ret
  exact ⟨rfl, Q.out⟩
theorem DcAllO_any (d : Option Nat) (q : Nat → Bool) (w : World) (h : DiscO w d q) :
    Calls Tryd.prog 19 #[dptr d] w fun e w' => e = .returned (.func (.func 26) #[] #[.pointer (some ⟨w.heap.size, 0, none⟩)]) ∧ Hid (∃ t, DC w' w.heap.size t ∧ (∀ i, i < 1350 → t i < 18446744073709551616) ∧ wupto t 1350 = secL q) ∧ Below w.heap.size w w' ∧ w.heap.size < w'.heap.size := by
  have key : ∀ t : Nat → Nat, (∀ k, k < 86400 → bitW t k = q k) → wupto t 1350 = secL q := fun t ht => by
    rw [wupto_sel, secL, show 64 * 1350 = 86400 from by decide]
    exact sel_congr fun k hk => ht k hk
  cases d with
  | none => exact (DcAllNil_any w).mono fun e w' ⟨h1, h2, h3, h4⟩ => ⟨h1, ⟨_, h2, fun i _ => by omega, key _ fun k hk => by rw [h k hk]; simp [bitW]⟩, h3, h4⟩
  | some b =>
    obtain ⟨f, g1, g2, g3, g4, g5⟩ := h
    exact (DcAll_any b f w g1 g5).mono fun e w' ⟨h1, h2, h3, h4⟩ => ⟨h1, ⟨_, h2, g3, key _ g4⟩, h3, h4⟩

set_option maxHeartbeats 800000 in
theorem CollTold_any : CollCall 20 86401 := by
  intro bg base k xs O W hk hl hJ
  obtain ⟨v, h1, h3, h4, h5, h8, g1, g3, g4⟩ := hJ
  obtain ⟨x, hx⟩ : ∃ x, xs[k] = x := ⟨_, rfl⟩
  have ht := hid (take_snoc xs k hk)
  rw [hx] at ht ⊢
  clear hx
  obtain ⟨a, cap, rfl, hs, hcap⟩ := owns_form h3
  have H3 := hid h3
  have G := hid (And.intro g1 (And.intro g3 g4))
  clear g1 g3 g4
  go_enter Tryd.func20, Tryd.ntmps20
  clear hs h3
  go_wp2_with (at_builtin; refine app1 eInt (.tmp 4) (.tmp 6) rfl rfl rfl rfl rfl H3.out rfl (by omega) (by omega) h8 ?_)
  intro a' cap' w' hown hg hb hf
  have e1 := grown_cell hg h1 (fun e => by have := owns_lt H3.out e; omega)
  have Hown := hid hown
  have Hf := hid hf
  have Hb := hid hb
  have Hg := hid hg
  have hfz : w'.frozen? ⟨bg, 0, none⟩ = false := (hb.frozen (p := ⟨bg, 0, none⟩) h5).trans h4
  clear hown hf hb hg h1 h4
  go_wp2
  obtain ⟨g1, g3, g4⟩ := G.out
  have hgr := Hg.out
  have hsz : W.heap.size ≤ w'.heap.size := hgr.size
  have hs2 : (w'.setCell ⟨bg, 0, none⟩ (.slice a' (k + 1) cap')).heap.size = w'.heap.size := by simp [go_sem]
  refine bodyPost_ret (v := .bool (decide ((k : Int) + 1 ≤ 86400))) (by simp [results, Tryd.results20, go_sem]) rfl ⟨fun b => O b ∨ (W.heap.size ≤ b ∧ b < w'.heap.size), fun b h => .inl h, fun b h => h.imp id (·.1), ?_, ?_, ?_⟩
  · refine ⟨hgr.os, hgr.tape, hgr.output, by omega, fun b hb hn => ?_⟩
    have hne : b ≠ bg := fun e => hn (e ▸ g1)
    rw [Below.heap_setCell _ _ _ _ hne]
    exact hgr.block b hb (fun e => hn (g3 b e.symm))
  · refine ⟨.slice a' (k + 1) cap', by simp [go_sem, e1], ?_, by simp [go_sem, hfz], h5, by omega, .inl g1, fun b hb => ?_, fun b hb => ?_⟩
    · rw [ht.out, ints_append, ints_one]; exact ownsRow_setCell_below Hown.out (by simpa using h5) _
    · rcases Hf.out b hb with h | h
      · exact .inl (g3 b h)
      · exact .inr ⟨h, (owns_lt Hown.out hb).2⟩
    · rcases hb with h | h
      · have := g4 b h; omega
      · omega
  · exact congrArg (fun b => Ending.returned (Value.bool b)) (decide_eq_decide.2 (by omega))

theorem secL_len (q : Nat → Bool) : (secL q).length ≤ 86400 := sel_len q 86400
set_option maxRecDepth 100000 in
set_option maxHeartbeats 1600000 in
/-- the seconds of a disc, or of none -/
theorem Told_any (d : Option Nat) (q : Nat → Bool) (w : World) (hT : Tab w) (h : DiscO w d q) :
    Calls Tryd.prog 11 #[dptr d] w fun e w' => (∃ v, e = .returned (.tuple #[v, .bool true]) ∧ w'.ownsRow w.heap.size 3 1 v (secL q).length (ints (secL q))) ∧ Below w.heap.size w w' := by
  have cA := hid (DcAllO_any d q w h)
  have HT := hid hT
  have hT0 := hT.1
  obtain ⟨v, hv⟩ : ∃ v, dptr d = v := ⟨_, rfl⟩
  rw [hv] at cA ⊢
  clear hv hT h
  go_enter Tryd.func11, Tryd.ntmps11
  go_wp2_with fail
  refine cA.out.mono ?_
  rintro e w1 ⟨rfl, ht, hB1, hl1⟩
  have hnil := fun W => run_eq_nilFunc (P := Tryd.prog) (t := 50) (f := .func 26) (a := #[]) (c := #[.pointer (some ⟨w.heap.size, 0, none⟩)]) (w := W) ⟨_, _, _, Tryd.underlying50⟩
  obtain ⟨W0, hW0⟩ : ∃ W0, w1.alloc (.cells #[.slice none 0 0] 22) = W0 := ⟨_, rfl⟩
  have hI : Hid (Calls Tryd.prog 26 #[.func (.func 20) #[] #[.pointer (some ⟨w1.heap.size, 0, none⟩)], .pointer (some ⟨w.heap.size, 0, none⟩)] W0 fun e W2 => (∃ v, e = .returned v) ∧
      ∃ a n cap, W2.cell? ⟨w1.heap.size, 0, none⟩ = some (.slice a n cap) ∧ W2.ownsRow w.heap.size 3 1 (.slice a n cap) (secL q).length (ints (secL q)) ∧ Below w.heap.size w W2) := by
    obtain ⟨t, t1, t2, t3⟩ := ht.out
    have q1 : W0.cell? ⟨w1.heap.size, 0, none⟩ = some (.slice none 0 0) := by rw [← hW0]; simp [go_sem]
    have q2 : W0.frozen? ⟨w1.heap.size, 0, none⟩ = false := by rw [← hW0]; simp [go_sem]
    have q3 : W0.heap.size = w1.heap.size + 1 := by rw [← hW0]; simp
    have q4 : Below w1.heap.size w1 W0 := by rw [← hW0]; exact below_new (Below.refl _ _) (Nat.le_refl _)
    have hB2 : Below w.heap.size w W0 := hB1.trans (q4.mono hB1.size)
    have hlen := secL_len q
    have hcl := (collk_client CollTold_any (Go.Proofs.enters_of Tryd.func20 (by kernel_rfl) rfl) w1.heap.size W0.heap.size (wupto t 1350) (by rw [t3]; omega) (by rw [t3]; omega)).two ⟨_, _, _, rfl⟩ (fun b => b = w1.heap.size) W0
    refine (DiscIter_any t w.heap.size _ _ _ (fun b => b = w1.heap.size) W0 t2 hcl ⟨_, q1, World.ownsRow_nil _ _ _ _, q2, by omega, Nat.le_refl _, rfl, fun b hb => (by cases hb), fun b hb => by omega⟩
      (by omega) (by omega) (t1.below q4 hl1) (HT.out.later hB2) (by omega)).mono ?_
    rintro e W2 ⟨he, O', hsub, hnew, hE, hend⟩
    refine ⟨he, ?_⟩
    have hJ : CollK w1.heap.size W0.heap.size (wupto t 1350) (wupto t 1350).length O' W2 := by
      rcases hend with h | ⟨_, _, _, h⟩
      · exact h
      · exact h.elim
    obtain ⟨v', k1, k2, k3, _⟩ := hJ
    obtain ⟨ag, cg, rfl, hs, _⟩ := owns_form k2
    rw [List.take_length, t3] at k2
    rw [t3] at k1
    exact ⟨_, _, _, k1, owns_base k2 (by omega), hB2.trans (hE.below (by rintro b h; have := hB1.size; omega) hB2.size)⟩
  have HW0 := hid hW0
  clear hW0 ht hB1 cA
  go_wp2_with fail
  rw [HW0.out]
  refine hI.out.mono ?_
  rintro e W2 ⟨⟨v, rfl⟩, a, n, cap, k1, k2, k3⟩
  have K := hid (And.intro k2 k3)
  clear k2 k3
  go_wp2
  go_ret2
  exact ⟨⟨_, rfl, K.out.1⟩, K.out.2⟩
end Go.Proofs.YtchceegpbfecaaaDoor

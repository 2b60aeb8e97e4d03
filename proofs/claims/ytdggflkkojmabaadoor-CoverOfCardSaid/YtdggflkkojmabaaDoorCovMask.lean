/-
  What slices.Collect computes of a telling, and what cover.Mask computes.
-/
import Derived.Test.YtdggflkkojmabaaDoorMaskIter2
import Derived.Test.YtdggflkkojmabaaDoorTodIter
import Derived.Test.YtdggflkkojmabaaDoorCollect2
import Derived.Test.YtdggflkkojmabaaDoorAppIn
import Derived.Test.YtdggflkkojmabaaDoorDovOf
namespace Go.Proofs.YtdggflkkojmabaaDoor
open Go.RowKit
set_option linter.unusedVariables false
attribute [local go_sem] Oper.semAt_some

set_option maxRecDepth 100000 in
set_option maxHeartbeats 3200000 in
theorem AppendSeq_any (gf : Nat) (lb : Array Value) (hent : ∀ args w, (callFunc gf args).run Tryd.prog w = .ok (.enter gf args) w) (xs : List Int) (hlen : xs.length ≤ 100000) (w : World)
    (hseq : ∀ W, Below w.heap.size w W → W.heap.size = w.heap.size + 1 → Tells2 Tryd.prog gf lb xs (fun b => b = w.heap.size) W) :
    Calls Tryd.prog 103 #[.slice none 0 0, .func (.func gf) #[] lb] w fun e w' => ∃ v, e = .returned v ∧ w'.ownsRow w.heap.size 3 1 v xs.length (ints xs) ∧ Below w.heap.size w w' := by
  have Hseq := hid hseq
  clear hseq
  obtain ⟨W1, hW1⟩ : ∃ W1, w.alloc (.cells #[.slice none 0 0] 22) = W1 := ⟨_, rfl⟩
  have q1 : W1.cell? ⟨w.heap.size, 0, none⟩ = some (.slice none 0 0) := by rw [← hW1]; simp [go_sem]
  have q2 : W1.frozen? ⟨w.heap.size, 0, none⟩ = false := by rw [← hW1]; simp [go_sem]
  have q3 : W1.heap.size = w.heap.size + 1 := by rw [← hW1]; simp
  have q4 : Hid (Below w.heap.size w W1) := by rw [← hW1]; exact below_new (Below.refl _ _) (Nat.le_refl _)
  have HI0 : Hid (CollK w.heap.size (w.heap.size + 1) xs 0 (fun b => b = w.heap.size) W1) :=
    ⟨_, q1, World.ownsRow_nil _ _ _ _, q2, by omega, by omega, rfl, (fun b h => nomatch h), fun b hb => by omega⟩
  have HW1 := hid hW1
  clear hW1 q1 q2
  refine (wf_calls (r := none) (n := 1)).mp ?_
  refine callsIn_of_wp_marks Tryd.func103 rfl trivial ?_ rfl
  simp only [Tryd.ntmps103, List.size_toArray, List.length_cons, List.length_nil, Nat.reduceAdd, Nat.reduceSub, Array.replicate_succ, Array.replicate_zero, List.push_toArray, List.append_toArray, List.nil_append, List.cons_append]
  gi_wp2_with fail
  rw [HW1.out]
  refine range_outer2 (gf := gf) (lb := lb) rfl hent xs (fun b => b = w.heap.size) rfl (Hseq.out W1 q4.out q3)
    (CollK w.heap.size (w.heap.size + 1) xs) (fun _ _ _ _ => False) (fun k O W W' h hs hO => h.stab hs hO) (fun _ _ _ _ _ h _ _ => h.elim) (fun k O W h => h.lt) (fun _ _ _ _ h => h.elim) HI0.out
    (fun k O a' W => CollK w.heap.size (w.heap.size + 1) xs k O W ∧ ∀ hk : k < xs.length, a' = { tmps := #[.slice none 0 0, .func (.func gf) #[] lb, .pointer (some ⟨w.heap.size, 0, none⟩), undef, .slice none 0 0, .int .i64 xs[k], .func (.func gf) #[] lb, .int .i64 xs[k], undef, undef, undef, undef, undef], defers := [] })
    (fun l o k O a' W' hr hn h => ⟨stab_put (fun k O W W' h hs hO => h.stab hs hO) h.1 hn o, h.2⟩) ?assign ?body ?done ?stop
  case assign =>
    intro l k O W K hk hI hG hK
    gi_wp2
    exact hK _ O W (Grow.refl _ _) ⟨hI, fun _ => rfl⟩
  case body =>
    rintro l k O a' W hk hG hl hrec hnl ⟨⟨v, h1, h3, h4, h5, h8, g1, g3, g4⟩, ha⟩
    rw [ha hk]
    obtain ⟨x, hx⟩ : ∃ x, xs[k] = x := ⟨_, rfl⟩
    have ht := hid (take_snoc xs k hk)
    rw [hx] at ht ⊢
    clear hx ha
    obtain ⟨a, cap, rfl, hs, hcap⟩ := owns_form h3
    have H3 := hid h3
    have G := hid (And.intro g1 (And.intro g3 g4))
    clear g1 g3 g4 hs h3
    gi_wp2_with (gi_at_builtin; refine app1In eInt (.tmp 8) (.tmp 10) rfl rfl rfl rfl rfl H3.out rfl (by omega) (by omega) (by omega) ?_)
    intro a' cap' w' hown hg hb hf
    have e1 := grown_cell hg h1 (fun e => by have := owns_lt H3.out e; omega)
    have Hown := hid hown
    have Hf := hid hf
    have Hb := hid hb
    have Hg := hid hg
    have hfz : w'.frozen? ⟨w.heap.size, 0, none⟩ = false := (hb.frozen (p := ⟨w.heap.size, 0, none⟩) h5).trans h4
    clear hown hf hb hg h1 h4
    gi_wp2
    obtain ⟨g1, g3, g4⟩ := G.out
    have hgr := Hg.out
    have hsz : W.heap.size ≤ w'.heap.size := hgr.size
    have hs2 : (w'.setCell ⟨w.heap.size, 0, none⟩ (.slice a' (k + 1) cap')).heap.size = w'.heap.size := by simp [go_sem]
    refine ⟨fun b => O b ∨ (W.heap.size ≤ b ∧ b < w'.heap.size), ⟨fun b h => .inl h, fun b h => h.imp id (·.1), ?_⟩, ?_⟩
    · refine ⟨hgr.os, hgr.tape, hgr.output, by omega, fun b hb hn => ?_⟩
      have hne : b ≠ w.heap.size := fun e => hn (e ▸ g1)
      rw [Below.heap_setCell _ _ _ _ hne]
      exact hgr.block b hb (fun e => hn (g3 b e.symm))
    · refine ⟨.slice a' (k + 1) cap', by simp [go_sem, e1], ?_, by simp [go_sem, hfz], h5, by omega, .inl g1, fun b hb => ?_, fun b hb => ?_⟩
      · rw [ht.out, ints_append, ints_one]; exact ownsRow_setCell_below Hown.out (by simp) _
      · rcases Hf.out b hb with h | h
        · exact .inl (g3 b h)
        · exact .inr ⟨h, (owns_lt Hown.out hb).2⟩
      · rcases hb with h | h
        · have := g4 b h; omega
        · omega
  case done =>
    rintro O' W' hG ⟨v, h1, h3, h4, h5, h8, g1, g3, g4⟩ hD hnD
    rw [List.take_length] at h3
    have HO := hid h3
    obtain ⟨a, cap, rfl, hs, hcap⟩ := owns_form h3
    clear hs h3
    gi_wp2
    refine ⟨by simp, .inl ⟨_, _, rfl, run_takeDeferred hD, ?_⟩⟩
    refine ⟨_, results_tmp rfl _ _ _, _, rfl, ?_, below_putObj (q4.out.trans (hG.eff.below (by rintro b rfl; exact Nat.le_refl _) q4.out.size)) (by omega) _⟩
    refine owns_agree (owns_base HO.out (by omega)) (fun b hb => World.putObj_heap_other (fun e => hnD ?_))
    exact e ▸ g3 b hb
  case stop =>
    intro c k O' W' _ _ _ h
    exact h.elim

theorem Collect_any (gf : Nat) (lb : Array Value) (hent : ∀ args w, (callFunc gf args).run Tryd.prog w = .ok (.enter gf args) w) (xs : List Int) (hlen : xs.length ≤ 100000) (w : World)
    (hseq : ∀ W, Below w.heap.size w W → W.heap.size = w.heap.size + 1 → Tells2 Tryd.prog gf lb xs (fun b => b = w.heap.size) W) :
    Calls Tryd.prog 90 #[.func (.func gf) #[] lb] w fun e w' => ∃ v, e = .returned v ∧ w'.ownsRow w.heap.size 3 1 v xs.length (ints xs) ∧ Below w.heap.size w w' := by
  have c1 := hid (AppendSeq_any gf lb hent xs hlen w hseq)
  clear hseq hent
  go_enter Tryd.func90, Tryd.ntmps90
  go_wp2_with fail
  refine (own_ret c1.out).mono ?_
  rintro e w1 ⟨a, n, cap, rfl, hn, hs, ho, hB⟩
  have Ho := hid ho
  have HB := hid hB
  obtain rfl := hn.out
  clear ho hs hB hn
  go_wp2
  go_ret
  exact ⟨_, rfl, Ho.out, HB.out⟩

theorem CovMask_any (m : Nat) (w : World) (hm : m < 18446744073709551616) (hT : Tab w) :
    Calls Tryd.prog 49 #[.int .u64 m] w fun e w' => ∃ v ps, e = .returned v ∧ Cov.OfIs (sel m.testBit 64) ps ∧ w'.ownsRow w.heap.size 111 3 v ps.length (trips ps) ∧ Below w.heap.size w w' := by
  have c1 := hid (MAll_one m w hm)
  have hlen := sel_len m.testBit 64
  have HT := hid hT
  have h0 := hT.1
  have c2 := hid (fun W b (hB : Below w.heap.size w W) (hb : b < W.heap.size) (hbox : W.cell? ⟨b, 0, none⟩ = some (.int .u64 m)) => own_ret (Collect_any 80 #[.pointer (some ⟨b, 0, none⟩)] mask_enters (sel m.testBit 64) (by omega) W
    (fun W1 hB1 hs1 => mask_tells2 m b _ W1 hm (by omega) (by omega) ((hB1.cell (p := ⟨b, 0, none⟩) hb).trans hbox) ((HT.out.later hB).later hB1) (by have := hB.size; omega))))
  have c3 := hid (fun a cap W (hc : (sel m.testBit 64).length ≤ cap) h => Cov.Of_any a cap (sel m.testBit 64) W (by omega) hc h)
  obtain ⟨xs, hxs⟩ : ∃ xs, sel m.testBit 64 = xs := ⟨_, rfl⟩
  rw [hxs] at c2 c3 hlen ⊢
  clear hT hxs
  go_enter Tryd.func49, Tryd.ntmps49
  go_wp2_with fail
  refine c1.out.mono ?_
  rintro e w1 ⟨rfl, hm1, hm2, hm3⟩
  have c4 := hid (c2.out w1 _ hm2 hm3 hm1)
  have HB1 := hid hm2
  have hs1 := hm2.size
  clear hm1 hm2 hm3
  go_wp2_with fail
  refine c4.out.mono ?_
  rintro e w2 ⟨a, n, cap, rfl, hn, hs, ho, hB⟩
  have Hn := hid hn.out
  have c5 := hid (c3.out a cap w2 (by
    have hnn := hn.out
    obtain ⟨h1, h2⟩ := ho
    rcases h2 with ⟨h, hh⟩ | ⟨g, cap', cur, h, _, _, hnc, _⟩
    · cases h; omega
    · cases h; omega) hs)
  obtain rfl := hn.out
  have HB2 := hid (HB1.out.trans (hB.mono hs1))
  have hs2 := hB.size
  clear hs ho hB hn
  go_wp2_with fail
  refine c5.out.mono ?_
  rintro e w3 ⟨v, ps, rfl, hp, ho, hB3⟩
  obtain ⟨a3, cap3, rfl, hs3, _⟩ := owns_form ho
  have Ho := hid ho
  have HB3 := hid hB3
  have Hp := hid hp
  clear hp ho hB3 hs3
  go_wp2
  go_ret
  exact ⟨_, ps, rfl, Hp.out, owns_base Ho.out (by omega), HB2.out.trans (HB3.out.mono (by omega))⟩
end Go.Proofs.YtdggflkkojmabaaDoor

/-
  ferialaw02.MaskNext answers true for every mask and span.
-/
import Derived.Test.YtdggflkkojmabaaDoorMaskNextLaw
import Derived.Test.YtdggflkkojmabaaDoorMaskSpansWalk
namespace Go.Proofs.YtdggflkkojmabaaDoor
open Go.RowKit
set_option linter.unusedVariables false

/-- what the parts of the statement's first half are -/
theorem next_facts (m : Nat) (n : Int) (hm : m < 18446744073709551616) :
    (leastB m = false ∧ leastI m = 0 ∧ sel m.testBit 64 = [] ∧ leastB (aboveM m n) = false ∧ leastI (aboveM m n) = 0 ∧ wantF n (sel m.testBit 64) = -1) ∨
    (leastB m = true ∧ (∃ bs, sel m.testBit 64 = leastI m :: bs) ∧
      ((leastB (aboveM m n) = false ∧ leastI (aboveM m n) = 0 ∧ wantF n (sel m.testBit 64) = -1) ∨ (leastB (aboveM m n) = true ∧ 0 ≤ leastI (aboveM m n) ∧ wantF n (sel m.testBit 64) = leastI (aboveM m n)))) := by
  by_cases h0 : m = 0
  · left
    have ha : aboveM m n = 0 := by
      apply Nat.eq_of_testBit_eq; intro i
      rw [aboveM_test n i hm, h0]; simp
    rw [want_no n hm ha, ha, first_no h0, h0]
    simp [leastB, leastI]
  · right
    obtain ⟨bs, hb⟩ := first_yes hm h0
    refine ⟨by simp [leastB, h0], ⟨bs, by rw [leastI, if_neg h0]; exact hb⟩, ?_⟩
    by_cases ha : aboveM m n = 0
    · left; rw [want_no n hm ha, ha]; simp [leastB, leastI]
    · right; rw [want_yes n hm ha]; simp [leastB, leastI, ha]

set_option maxRecDepth 100000 in
set_option maxHeartbeats 3200000 in
theorem MaskNext_walk (m : Nat) (n to : Int) (w : World) (hm : m < 18446744073709551616) (hn : -9223372036854775808 ≤ n ∧ n ≤ 9223372036854775807) (hto : -9223372036854775808 ≤ to ∧ to ≤ 9223372036854775807) (hT : Tab w) :
    Calls Tryd.prog 6 #[.int .u64 m, .int .i64 n, .int .i64 to] w fun e w' => e = .returned (.bool true) ∧ Below w.heap.size w w' := by
  have hf := next_facts m n hm
  have HT := hid hT
  have cl := hid (own_ret (RList_any m w hm))
  have hlen := sel_pop m
  have h64 := sel_len m.testBit 64
  have c1 := hid (fun W (h : Below w.heap.size w W) => Least_any m W hm (HT.out.later h))
  have c2 := hid (fun W (h : Below w.heap.size w W) => Next_any m n W hm (HT.out.later h))
  have c3 := hid (fun W => Len_any m W hm)
  have c4 := hid (fun (k : Nat) W => hasB_nat m k ▸ RHas_any m k W hm)
  have c5 := hid (fun W => Without_any m n to W hm hn)
  have c6 := hid (fun W (h : Below w.heap.size w W) => lives02_any W (HT.out.later h))
  obtain ⟨l, hl⟩ : ∃ l, sel m.testBit 64 = l := ⟨_, rfl⟩
  obtain ⟨x1, e1⟩ : ∃ x, leastI m = x := ⟨_, rfl⟩
  obtain ⟨x2, e2⟩ : ∃ x, leastI (aboveM m n) = x := ⟨_, rfl⟩
  obtain ⟨b1, e3⟩ : ∃ x, leastB m = x := ⟨_, rfl⟩
  obtain ⟨b2, e4⟩ : ∃ x, leastB (aboveM m n) = x := ⟨_, rfl⟩
  rw [hl, e1, e2, e3, e4] at hf
  rw [hl] at cl hlen h64
  rw [e1, e3] at c1
  rw [e2, e4] at c2
  rw [← hlen] at c3
  have Hf := hid hf
  obtain ⟨n1, n2⟩ := hn
  obtain ⟨to1, to2⟩ := hto
  clear hf hlen hl e1 e2 e3 e4 hT
  go_enter Tryd.func6, Tryd.ntmps6
  go_wp2_with fail
  refine cl.out.mono ?_
  rintro e w1 ⟨a1, nn, cp1, rfl, Hnn, hsl1, hown1, hb1⟩
  have hnn : nn ≤ 64 := by rw [Hnn.out]; exact h64
  rw [← Hnn.out] at c3
  have Hsl := hid hsl1
  have Hb1 := hid hb1
  clear hown1 hsl1 hb1 cl h64
  go_wp2_with (first
    | (go_at_call 36; refine (c1.out _ Hb1.out).mono ?_; rintro e w' ⟨rfl, rfl⟩)
    | (go_at_call 37; refine (c2.out _ Hb1.out).mono ?_; rintro e w' ⟨rfl, rfl⟩))
  go_loopw [12, 13] (fun v i wr => ∃ k : Nat, i = .int .i64 ((k : Int) - 1) ∧ k ≤ nn ∧ v = .int .i64 (wantF n (l.drop k)) ∧ wr = w1) (fun _ i _ => (intOf i + 1).toNat)
  case atStart => exact ⟨nn, by go_num, by omega, by rw [Hnn.out, List.drop_length]; rfl, rfl⟩
  case round =>
    obtain ⟨k, rfl, hk, rfl, rfl⟩ := hrel
    by_cases hk1 : 1 ≤ k
    · obtain ⟨j, rfl⟩ : ∃ j, k = j + 1 := ⟨k - 1, by omega⟩
      have hj : j < l.length := by have := Hnn.out; omega
      obtain ⟨b, off, rfl, hb, hc⟩ := Hsl.out.atInt hj
      have ec := hc j hj
      have hst := hid (wantF_step n l j hj)
      obtain ⟨x, hx⟩ : ∃ x, l[j] = x := ⟨_, rfl⟩
      rw [hx] at ec hst
      obtain ⟨v, hv⟩ : ∃ v, wantF n (l.drop (j + 1)) = v := ⟨_, rfl⟩
      rw [hv] at hst ⊢
      clear hc hx hv
      have ej : ((j + 1 : Nat) : Int) - 1 = (j : Int) := by omega
      rw [ej]
      clear ej
      by_cases hlt : n < x
      · have hst2 : Hid (wantF n (l.drop j) = x) := by show wantF n (l.drop j) = x; rw [hst.out, if_pos hlt]
        go_wp2
        exact ⟨⟨j, by go_num, by omega, by rw [hst2.out], trivial⟩, by simp [intOf]⟩
      · have hst2 : Hid (wantF n (l.drop j) = v) := by show wantF n (l.drop j) = v; rw [hst.out, if_neg hlt]
        go_wp2
        exact ⟨⟨j, by go_num, by omega, by rw [hst2.out], trivial⟩, by simp [intOf]⟩
    · obtain rfl : k = 0 := by omega
      rw [List.drop_zero, show ((0 : Nat) : Int) - 1 = -1 from rfl]
      obtain ⟨P, hP⟩ : ∃ P : Nat → Bool, (fun k => spanB n to 1 k && !m.testBit k) = P := ⟨_, rfl⟩
      have hPk : Hid (∀ k, P k = ((decide (n ≤ (k : Int)) && decide ((k : Int) ≤ to)) && !m.testBit k)) := fun k => by rw [← hP, ← span_one]
      rw [hP] at c5
      clear hP
      obtain ⟨v, hv⟩ : ∃ v, wantF n l = v := ⟨_, rfl⟩
      rw [hv]
      rw [hv] at Hf
      clear hv
      rcases Hf.out with ⟨rfl, rfl, hl, rfl, rfl, rfl⟩ | ⟨rfl, ⟨bs, hl⟩, hr⟩
      · have hn0 : nn = 0 := by rw [Hnn.out, hl]; rfl
        subst hn0
        clear hl Hf
        go_wp2_with (go_at_call 38; refine (c3.out _).mono ?_; rintro e w' ⟨rfl, rfl⟩)
        go_loopw [14, 15] (fun v i wr => ∃ (k q cap : Nat) (a : Option Addr), i = .int .i64 k ∧ k ≤ 64 ∧ v = .slice a q cap ∧ q ≤ k ∧ q = (sel P k).length ∧ wr.ownsRow w.heap.size 3 1 (.slice a q cap) q (ints (sel P k)) ∧ Below w.heap.size w wr) (fun _ i _ => (64 - intOf i).toNat)
        case atStart => exact ⟨0, 0, 0, none, rfl, by omega, rfl, by omega, rfl, World.ownsRow_nil _ _ _ _, Hb1.out⟩
        case round =>
          obtain ⟨k, q, cap, a, rfl, hk, rfl, hq, hql, hown, hB⟩ := hrel
          by_cases hlt : k < 64
          · have hsz := hB.size
            have H2 := hid (c4.out k wr)
            have Hp := hid (hPk.out k)
            have Hql := hid hql
            clear hql
            by_cases a1 : n ≤ (k : Int)
            · by_cases a2 : (k : Int) ≤ to
              · obtain ⟨bk, hbk⟩ : ∃ x, m.testBit k = x := ⟨_, rfl⟩
                rw [hbk] at Hp H2
                clear hbk
                cases bk
                · have hy : P k = true := by rw [Hp.out]; simp [a1, a2]
                  have Hy := hid (sel_yes hy)
                  clear hy
                  go_wp2_with fail
                  refine H2.out.mono ?_
                  rintro e w1 ⟨rfl, rfl⟩
                  go_wp2_with (at_builtin; refine app1 eInt (.tmp 116) (.tmp 118) rfl rfl rfl rfl rfl hown rfl (by omega) (by omega) hsz ?_)
                  intro a' cap' w' hown2 hg2 hb2 hf2
                  have hB2 := hB.trans hb2
                  rw [← ints_one, ← ints_append, ← Hy.out] at hown2
                  go_wp2
                  exact ⟨⟨k + 1, q + 1, cap', a', by go_num, by omega, rfl, by omega, by rw [Hy.out, List.length_append, ← Hql.out]; rfl, hown2, hB2⟩, by simp [intOf]; omega⟩
                · have hy : P k = false := by rw [Hp.out]; simp
                  have Hy := hid (sel_no hy)
                  clear hy
                  go_wp2_with fail
                  refine H2.out.mono ?_
                  rintro e w1 ⟨rfl, rfl⟩
                  go_wp2
                  exact ⟨⟨k + 1, q, cap, a, by go_num, by omega, rfl, by omega, by rw [Hy.out]; exact Hql.out, by rw [Hy.out]; exact hown, hB⟩, by simp [intOf]; omega⟩
              · have hy : P k = false := by rw [Hp.out]; simp [a2]
                have Hy := hid (sel_no hy)
                clear hy
                go_wp2
                exact ⟨⟨k + 1, q, cap, a, by go_num, by omega, rfl, by omega, by rw [Hy.out]; exact Hql.out, by rw [Hy.out]; exact hown, hB⟩, by simp [intOf]; omega⟩
            · have hy : P k = false := by rw [Hp.out]; simp [a1]
              have Hy := hid (sel_no hy)
              clear hy
              go_wp2
              exact ⟨⟨k + 1, q, cap, a, by go_num, by omega, rfl, by omega, by rw [Hy.out]; exact Hql.out, by rw [Hy.out]; exact hown, hB⟩, by simp [intOf]; omega⟩
          · obtain rfl : k = 64 := by omega
            have hsl := owns_sl hown
            have hof := ROf_any a cap (sel P 64) wr (by have := sel_len P 64; omega) hsl
            rw [ofM_sel, ← hql] at hof
            have Hof := hid hof
            have hsz := hB.size
            obtain ⟨M, hM⟩ : ∃ M, mk P = M := ⟨_, rfl⟩
            rw [hM] at Hof c5
            clear hM hof hsl hown hql
            go_wp2_with fail
            refine (c5.out _).mono ?_
            rintro e w2 ⟨rfl, rfl⟩
            go_wp2_with fail
            refine Hof.out.mono ?_
            rintro e w3 ⟨rfl, hb3⟩
            have hB3 := hB.trans (hb3.mono hsz)
            have hsz3 := hB3.size
            go_wp2_with fail
            refine (c6.out _ hB3).mono ?_
            rintro e w4 ⟨rfl, hb4⟩
            go_wp2
            go_ret
            exact ⟨rfl, hB3.trans (hb4.mono hsz3)⟩
      · have hn1 : 0 < nn := by rw [Hnn.out, hl]; simp
        have hn1' : 0 < l.length := by rw [hl]; simp
        obtain ⟨b, off, rfl, hb, hc⟩ := Hsl.out.atInt hn1'
        have ec := hc 0 hn1'
        have hx : l[0] = x1 := by simp [hl]
        rw [hx, Nat.add_zero] at ec
        clear hc hx hl hn1' Hf
        rcases hr with ⟨rfl, rfl, rfl⟩ | ⟨rfl, hx2, rfl⟩
        all_goals
          go_wp2_with (go_at_call 38; refine (c3.out _).mono ?_; rintro e w' ⟨rfl, rfl⟩)
          go_loopw [14, 15] (fun v i wr => ∃ (k q cap : Nat) (a : Option Addr), i = .int .i64 k ∧ k ≤ 64 ∧ v = .slice a q cap ∧ q ≤ k ∧ q = (sel P k).length ∧ wr.ownsRow w.heap.size 3 1 (.slice a q cap) q (ints (sel P k)) ∧ Below w.heap.size w wr) (fun _ i _ => (64 - intOf i).toNat)
          case atStart => exact ⟨0, 0, 0, none, rfl, by omega, rfl, by omega, rfl, World.ownsRow_nil _ _ _ _, Hb1.out⟩
          case round =>
            obtain ⟨k, q, cap, a, rfl, hk, rfl, hq, hql, hown, hB⟩ := hrel
            by_cases hlt : k < 64
            · have hsz := hB.size
              have H2 := hid (c4.out k wr)
              have Hp := hid (hPk.out k)
              have Hql := hid hql
              clear hql
              by_cases a1 : n ≤ (k : Int)
              · by_cases a2 : (k : Int) ≤ to
                · obtain ⟨bk, hbk⟩ : ∃ x, m.testBit k = x := ⟨_, rfl⟩
                  rw [hbk] at Hp H2
                  clear hbk
                  cases bk
                  · have hy : P k = true := by rw [Hp.out]; simp [a1, a2]
                    have Hy := hid (sel_yes hy)
                    clear hy
                    go_wp2_with fail
                    refine H2.out.mono ?_
                    rintro e w1 ⟨rfl, rfl⟩
                    go_wp2_with (at_builtin; refine app1 eInt (.tmp 116) (.tmp 118) rfl rfl rfl rfl rfl hown rfl (by omega) (by omega) hsz ?_)
                    intro a' cap' w' hown2 hg2 hb2 hf2
                    have hB2 := hB.trans hb2
                    rw [← ints_one, ← ints_append, ← Hy.out] at hown2
                    go_wp2
                    exact ⟨⟨k + 1, q + 1, cap', a', by go_num, by omega, rfl, by omega, by rw [Hy.out, List.length_append, ← Hql.out]; rfl, hown2, hB2⟩, by simp [intOf]; omega⟩
                  · have hy : P k = false := by rw [Hp.out]; simp
                    have Hy := hid (sel_no hy)
                    clear hy
                    go_wp2_with fail
                    refine H2.out.mono ?_
                    rintro e w1 ⟨rfl, rfl⟩
                    go_wp2
                    exact ⟨⟨k + 1, q, cap, a, by go_num, by omega, rfl, by omega, by rw [Hy.out]; exact Hql.out, by rw [Hy.out]; exact hown, hB⟩, by simp [intOf]; omega⟩
                · have hy : P k = false := by rw [Hp.out]; simp [a2]
                  have Hy := hid (sel_no hy)
                  clear hy
                  go_wp2
                  exact ⟨⟨k + 1, q, cap, a, by go_num, by omega, rfl, by omega, by rw [Hy.out]; exact Hql.out, by rw [Hy.out]; exact hown, hB⟩, by simp [intOf]; omega⟩
              · have hy : P k = false := by rw [Hp.out]; simp [a1]
                have Hy := hid (sel_no hy)
                clear hy
                go_wp2
                exact ⟨⟨k + 1, q, cap, a, by go_num, by omega, rfl, by omega, by rw [Hy.out]; exact Hql.out, by rw [Hy.out]; exact hown, hB⟩, by simp [intOf]; omega⟩
            · obtain rfl : k = 64 := by omega
              have hsl := owns_sl hown
              have hof := ROf_any a cap (sel P 64) wr (by have := sel_len P 64; omega) hsl
              rw [ofM_sel, ← hql] at hof
              have Hof := hid hof
              have hsz := hB.size
              obtain ⟨M, hM⟩ : ∃ M, mk P = M := ⟨_, rfl⟩
              rw [hM] at Hof c5
              clear hM hof hsl hown hql
              go_wp2_with fail
              refine (c5.out _).mono ?_
              rintro e w2 ⟨rfl, rfl⟩
              go_wp2_with fail
              refine Hof.out.mono ?_
              rintro e w3 ⟨rfl, hb3⟩
              have hB3 := hB.trans (hb3.mono hsz)
              have hsz3 := hB3.size
              go_wp2_with fail
              refine (c6.out _ hB3).mono ?_
              rintro e w4 ⟨rfl, hb4⟩
              go_wp2
              go_ret
              exact ⟨rfl, hB3.trans (hb4.mono hsz3)⟩
end Go.Proofs.YtdggflkkojmabaaDoor

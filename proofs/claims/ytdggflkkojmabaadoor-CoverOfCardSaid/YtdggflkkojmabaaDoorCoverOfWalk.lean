/-
  ferialaw03.CoverOf answers true for every list and mask.
-/
import Derived.Test.YtdggflkkojmabaaDoorCovSame
import Derived.Test.YtdggflkkojmabaaDoorMaskList
namespace Go.Proofs.YtdggflkkojmabaaDoor
open Go.RowKit
set_option linter.unusedVariables false

theorem Cov.Decomp.len : ∀ {ps : List (Int × Int × Int)} {l : List Int}, Cov.Decomp ps l → ps.length ≤ l.length
  | [], l, _ => Nat.zero_le _
  | p :: ps, l, ⟨h0, n, hf, hd⟩ => by
    have h1 := hf.pos
    have h2 := Cov.Decomp.len hd
    simp at h2 ⊢
    omega
theorem Cov.OfIs.len {l : List Int} {ps : List (Int × Int × Int)} (h : Cov.OfIs l ps) : ps.length ≤ l.length := by
  rcases h with ⟨_, h⟩ | ⟨_, rfl⟩
  · exact h.len
  · exact Nat.zero_le _

set_option maxRecDepth 100000 in
set_option maxHeartbeats 3200000 in
theorem CoverOf_walk (a : Option Addr) (cap : Nat) (l : List Int) (m : Nat) (w : World) (hl : l.length ≤ 9223372036854775807) (hlc : l.length ≤ cap) (hsl : Sl w a (ints l)) (_ : ∀ x ∈ l, -9223372036854775808 ≤ x ∧ x ≤ 9223372036854775807)
    (hm : m < 18446744073709551616) (hT : Tab w) :
    Calls Tryd.prog 8 #[.slice a l.length cap, .int .u64 m] w fun e w' => e = .returned (.bool true) ∧ Below w.heap.size w w' := by
  have HT := hid hT
  have cL := hid (fun W => Cov.lives03_any W)
  clear hT
  by_cases h500 : 500 < l.length
  · have h5 : (500 : Int) < (l.length : Int) := by omega
    clear h500 hlc
    go_enter Tryd.func8, Tryd.ntmps8
    go_wp2_with fail
    refine (cL.out w).mono ?_
    rintro e w1 ⟨rfl, hb1⟩
    go_wp2
    go_ret
    exact ⟨rfl, hb1⟩
  · have h5 : ¬ (500 : Int) < (l.length : Int) := by omega
    have c1 := hid (Cov.Of_any a cap l w (by omega) hlc hsl)
    have c2 := hid (fun W (hB : Below w.heap.size w W) => Cov.ROf_any a cap l W (by omega) (hsl.below hB))
    have c3 := hid (fun a b c d ps W (hl : List.length ps ≤ 500) h1 h2 => Cov.Same_any a b c d ps W (by omega) h1 h2)
    have c4 := hid (fun W (hB : Below w.heap.size w W) => CovMask_any m W hm (HT.out.later hB))
    have c5 := hid (fun W => own_ret (RList_any m W hm))
    have hlen := sel_len m.testBit 64
    obtain ⟨xs, hxs⟩ : ∃ xs, sel m.testBit 64 = xs := ⟨_, rfl⟩
    rw [hxs] at c4 c5 hlen
    have c6 := hid (fun a2 cap2 W h => Cov.ROf_any a2 cap2 xs W (by omega) h)
    clear h500 hlc hsl hxs
    go_enter Tryd.func8, Tryd.ntmps8
    go_wp2_with fail
    refine c1.out.mono ?_
    rintro e w1 ⟨v1, ps1, rfl, hp1, ho1, hB1⟩
    have d2 := hid (c2.out w1 hB1)
    have HB1 := hid hB1
    have Hp1 := hid hp1
    obtain ⟨a1, k1, rfl, hs1, _⟩ := owns_form ho1
    have Hs1 := hid hs1
    have hz1 := hB1.size
    clear hB1 hp1 ho1 hs1
    go_wp2_with fail
    refine d2.out.mono ?_
    rintro e w2 ⟨v2, ps2, rfl, hp2, ho2, hB2⟩
    obtain rfl := Hp1.out.unique hp2
    obtain ⟨a2, k2, rfl, hs2, _⟩ := owns_form ho2
    have hn : ps1.length ≤ 500 := by have := hp2.len; omega
    have d3 := hid (c3.out a1 a2 k1 k2 ps1 w2 hn (Hs1.out.below hB2) hs2)
    have HB2 := hid (HB1.out.trans (hB2.mono hz1))
    have hz2 := HB2.out.size
    clear hp2 ho2 hs2 hB2 hn
    go_wp2_with fail
    refine d3.out.mono ?_
    rintro e w3 ⟨rfl, hB3⟩
    have HB3 := hid (HB2.out.trans (hB3.mono hz2))
    have hz3 := HB3.out.size
    have d4 := hid (c4.out w3 HB3.out)
    clear hB3
    go_wp2_with fail
    refine d4.out.mono ?_
    rintro e w4 ⟨v4, ps4, rfl, hp4, ho4, hB4⟩
    obtain ⟨a4, k4, rfl, hs4, _⟩ := owns_form ho4
    have Hs4 := hid hs4
    have Hp4 := hid hp4
    have HB4 := hid (HB3.out.trans (hB4.mono hz3))
    have hz4 := HB4.out.size
    have d5 := hid (c5.out w4)
    clear hs4 hp4 ho4 hB4
    go_wp2_with fail
    refine d5.out.mono ?_
    rintro e w5 ⟨a5, n5, k5, rfl, hn5, hs5, _, hB5⟩
    obtain rfl := hn5.out
    have d6 := hid (c6.out a5 k5 w5 hs5)
    have Hs45 := hid (Hs4.out.below hB5)
    have HB5 := hid (HB4.out.trans (hB5.mono hz4))
    have hz5 := HB5.out.size
    clear hs5 hB5 hn5
    go_wp2_with fail
    refine d6.out.mono ?_
    rintro e w6 ⟨v6, ps6, rfl, hp6, ho6, hB6⟩
    obtain rfl := Hp4.out.unique hp6
    obtain ⟨a6, k6, rfl, hs6, _⟩ := owns_form ho6
    have hn : ps4.length ≤ 500 := by have := hp6.len; omega
    have d7 := hid (c3.out a4 a6 k4 k6 ps4 w6 hn (Hs45.out.below hB6) hs6)
    have HB6 := hid (HB5.out.trans (hB6.mono hz5))
    have hz6 := HB6.out.size
    clear hp6 ho6 hs6 hB6 hn
    go_wp2_with fail
    refine d7.out.mono ?_
    rintro e w7 ⟨rfl, hB7⟩
    have HB7 := hid (HB6.out.trans (hB7.mono hz6))
    have hz7 := HB7.out.size
    have d8 := hid (cL.out w7)
    clear hB7
    go_wp2_with fail
    refine d8.out.mono ?_
    rintro e w8 ⟨rfl, hB8⟩
    have HB8 := hid (HB7.out.trans (hB8.mono hz7))
    clear hB8
    go_wp2
    go_ret
    exact ⟨rfl, HB8.out⟩
end Go.Proofs.YtdggflkkojmabaaDoor

/-
  ferialaw02.MaskAll answers true for every list of masks.
-/
import Derived.Test.YtdggflkkojmabaaDoorCollect2
import Derived.Test.YtdggflkkojmabaaDoorInts
import Derived.Shelf.Abstract
import Derived.Test.YtdggflkkojmabaaDoorMaskSpansWalk
namespace Go.Proofs.YtdggflkkojmabaaDoor
open Go.RowKit
set_option linter.unusedVariables false

/-- the first 'most' ones of a list, or all where most is 0 -/
def tk (most : Nat) (l : List Int) : List Int := if most = 0 then l else l.take most
theorem tk_nil (most : Nat) : tk most [] = [] := by unfold tk; split <;> simp
theorem tk_yes {most : Nat} {l : List Int} (x : Int) (h : most = 0 ∨ (tk most l).length < most) : tk most (l ++ [x]) = tk most l ++ [x] := by
  unfold tk at h ⊢
  split
  · rfl
  · rename_i h0
    rw [if_neg h0, List.length_take] at h
    rw [List.take_of_length_le (by simp; omega), List.take_of_length_le (by omega)]
theorem tk_no {most : Nat} {l : List Int} (x : Int) (h0 : most ≠ 0) (h : ¬ (tk most l).length < most) : tk most (l ++ [x]) = tk most l := by
  unfold tk at h ⊢
  rw [if_neg h0] at h ⊢
  rw [if_neg h0]
  rw [List.length_take] at h
  rw [List.take_append_of_le_length (by omega)]
theorem tk_all {most : Nat} {l : List Int} (h : ∀ j, 1 ≤ j → j ≤ l.length → j ≠ most) : tk most l = l := by
  unfold tk
  split
  · rfl
  · refine List.take_of_length_le ?_
    rcases Nat.lt_or_ge l.length most with h1 | h1
    · omega
    · exact absurd rfl (h most (by omega) h1)
theorem tk_some {most : Nat} {l : List Int} (h : 1 ≤ most) : tk most l = l.take most := if_neg (by omega)

theorem andM_lt (l : List Nat) : andM l < 18446744073709551616 := by
  unfold andM; split
  · omega
  · exact foldM_lt (by omega) l
theorem andM_test (l : List Nat) (n : Nat) (hn : n < 64) : (andM l).testBit n = (decide (0 < l.length) && l.all (fun x => x.testBit n)) := by
  unfold andM
  split
  · rename_i h; simp [h]
  · rename_i h
    rw [foldM_test, ones_test]
    have : 0 < l.length := by omega
    simp [hn, this]

/-- the callback of MaskAll is a client of a telling of xs -/
theorem coll_client (bg bm base most : Nat) (xs : List Int) (hl : xs.length ≤ 100000) (hm : most < 256) :
    Client Tryd.prog (.func (.func 26) #[] #[.pointer (some ⟨bg, 0, none⟩), .pointer (some ⟨bm, 0, none⟩)]) xs
      (fun k O W => CollJ bg bm base (.int .u8 most) xs k O W ∧ ∀ j, 1 ≤ j → j ≤ k → j ≠ most) (fun k O W => CollJ bg bm base (.int .u8 most) xs k O W ∧ k = most) where
  stab := fun k O W W' h hs hO => ⟨h.1.stab hs hO, h.2⟩
  stabx := fun k O W W' h hs hO => ⟨h.1.stab hs hO, h.2⟩
  lt := fun k O W h => h.1.lt
  ltx := fun k O W h => h.1.lt
  call := fun k O W hk h => .inl ⟨_, _, rfl, Go.Proofs.enters_of Tryd.func26 (by kernel_rfl) rfl, (Coll26_any bg bm base most k xs O W hk hl hm h.1).mono fun e W' ⟨O', h1, h2, h3, h4, h5⟩ => ⟨O', h1, h2, h3, by
    by_cases e1 : k + 1 = most
    · right; exact ⟨by rw [h5]; simp [e1], h4, e1⟩
    · left; exact ⟨by rw [h5]; simp [e1], h4, fun j hj1 hj2 => by
        rcases Nat.lt_or_ge k j with h6 | h6
        · have : j = k + 1 := by omega
          rw [this]; exact e1
        · exact h.2 j hj1 h6⟩⟩⟩

set_option maxRecDepth 100000 in
set_option maxHeartbeats 3200000 in
theorem MaskAll_walk (a : Option Addr) (cap : Nat) (l : List Nat) (most : Nat) (w : World) (hl : l.length ≤ 9223372036854775807) (_ : l.length ≤ cap) (hs : Sl w a (u64s l)) (hb : ∀ x ∈ l, x < 18446744073709551616) (hm : most < 256) (hT : Tab w) :
    Calls Tryd.prog 4 #[.slice a l.length cap, .int .u8 most] w fun e w' => e = .returned (.bool true) ∧ Below w.heap.size w w' := by
  have HT := hid hT
  clear hT
  have c0 := hid (fun W (h : Below w.heap.size w W) => lives02_any W (HT.out.later h))
  have hB0 : Below w.heap.size w (w.alloc (.cells #[.int .u8 most] 5)) := below_new (Below.refl _ _) (Nat.le_refl _)
  by_cases h20 : 20 < l.length
  · go_enter Tryd.func4, Tryd.ntmps4
    go_wp2_with fail
    refine (c0.out _ hB0).mono ?_
    rintro e w1 ⟨rfl, hb1⟩
    go_wp2
    go_ret
    exact ⟨rfl, hB0.trans (hb1.mono (by simp))⟩
  · go_enter Tryd.func4, Tryd.ntmps4
    have f1 : ∀ v, v = ((w.alloc (.cells #[.int .u8 most] 5)).alloc (.cells #[.slice none 0 0] 22)) → v.cell? ⟨w.heap.size, 0, none⟩ = some (.int .u8 most) ∧ v.cell? ⟨w.heap.size + 1, 0, none⟩ = some (.slice none 0 0) ∧ v.frozen? ⟨w.heap.size + 1, 0, none⟩ = false ∧ v.heap.size = w.heap.size + 2 ∧ Below w.heap.size w v := by
      rintro v rfl
      exact ⟨by simp [go_sem], by simp [go_sem], by simp [go_sem], by simp [go_sem], below_new hB0 (by simp)⟩
    have F1 := hid f1
    clear f1
    go_wp2_with fail
    obtain ⟨W0, hW0⟩ : ∃ v, v = ((w.alloc (.cells #[.int .u8 most] 5)).alloc (.cells #[.slice none 0 0] 22)) := ⟨_, rfl⟩
    have hF := F1.out _ hW0
    rw [← hW0]
    clear hW0 F1 hB0
    obtain ⟨k1, k2, k3, k4, k5⟩ := hF
    have K := hid (And.intro k1 (And.intro k2 (And.intro k3 (And.intro k4 k5))))
    clear k1 k2 k3 k5
    obtain ⟨p, hp⟩ : ∃ p : Nat → Bool, p = (andM l).testBit := ⟨_, rfl⟩
    have Hp := hid hp
    clear hp
    go_loopw [5, 7, 8, 9] (fun v i _ _ wr => ∃ (k q capq : Nat) (aq : Option Addr), i = .int .i64 k ∧ k ≤ 64 ∧ v = .slice aq q capq ∧ q ≤ k ∧ q = (tk most (sel p k)).length ∧ wr.ownsRow W0.heap.size 3 1 (.slice aq q capq) q (ints (tk most (sel p k))) ∧ Below W0.heap.size W0 wr) (fun _ i _ _ _ => (64 - intOf i).toNat)
    case atStart => exact ⟨0, 0, 0, none, rfl, by omega, rfl, by omega, by simp [sel_zero, tk_nil], by rw [sel_zero, tk_nil]; exact World.ownsRow_nil _ _ _ _, Below.refl _ _⟩
    case round =>
      obtain ⟨k, q, capq, aq, rfl, hk, rfl, hq, hql, hown, hB⟩ := hrel
      have Hql := hid hql
      have hsz := hB.size
      have hbm := (hB.cell (p := ⟨w.heap.size, 0, none⟩) (by simp only []; omega)).trans K.out.1
      clear hql
      by_cases hlt : k < 64
      · have cH := hid (fun (x : Nat) (hx : x < 18446744073709551616) W => hasB_nat x k ▸ RHas_any x k W hx)
        go_wp2_with fail
        obtain ⟨wo, rfl⟩ : ∃ wo : World, wo = wr := ⟨_, rfl⟩
        rw [show decide ((k : Int) < 64) = true by simp; omega]
        go_loopw [8, 9] (fun v i wr => ∃ (j : Nat), i = .int .i64 j ∧ j ≤ l.length ∧ v = .bool (decide (0 < l.length) && (l.take j).all (fun x => x.testBit k)) ∧ wr = wo) (fun _ i _ => (l.length - (intOf i).toNat))
        case atStart => exact ⟨0, rfl, by omega, by simp, rfl⟩
        case round =>
          obtain ⟨j, rfl, hj, rfl, rfl⟩ := hrel
          by_cases hjl : j < l.length
          · obtain ⟨b, off, rfl, hbk, hc⟩ := hs.atU64 hjl
            have e1 := (((K.out.2.2.2.2).trans (hB.mono (by omega))).cell (p := ⟨b, off + j, none⟩) hbk).trans (hc j hjl)
            have ht := hid (take_snoc l j hjl)
            have hx := hb l[j] (by simp)
            obtain ⟨x, hxe⟩ : ∃ x, l[j] = x := ⟨_, rfl⟩
            rw [hxe] at e1 ht hx
            have H1 := hid (cH.out x hx wr)
            have hst : Hid ((decide (0 < l.length) && (l.take (j + 1)).all (fun x => x.testBit k)) = ((decide (0 < l.length) && (l.take j).all (fun x => x.testBit k)) && x.testBit k)) := by
              show _ = _
              rw [ht.out, List.all_append]; simp [Bool.and_assoc]
            obtain ⟨bi, hbi⟩ : ∃ v, (decide (0 < l.length) && (l.take j).all (fun x => x.testBit k)) = v := ⟨_, rfl⟩
            rw [hbi] at hst ⊢
            obtain ⟨bt, hbt⟩ : ∃ v, x.testBit k = v := ⟨_, rfl⟩
            rw [hbt] at hst H1
            clear hc hxe hbi hbt hs
            have hj1 : j + 1 ≤ l.length := by omega
            cases bi
            · go_wp2
              refine ⟨⟨j + 1, by go_num, hj1, by rw [hst.out]; rfl, trivial⟩, by simp [intOf]; omega⟩
            · go_wp2_with (go_at_call 24; refine H1.out.mono ?_; rintro e w1 ⟨rfl, rfl⟩)
              go_roundw
              case rel => exact ⟨j + 1, by go_num, hj1, by rw [hst.out]; simp, trivial⟩
              case measure => simp [intOf]; omega
          · have hje : l.take j = l := List.take_of_length_le (by omega)
            have hpk : Hid ((decide (0 < l.length) && (l.take j).all (fun x => x.testBit k)) = p k) := by
              show _ = p k
              rw [hje, Hp.out, andM_test l k hlt]
            rw [hpk.out]
            clear hje hs
            obtain ⟨bp, hbp⟩ : ∃ v, p k = v := ⟨_, rfl⟩
            have Hbp := hid hbp
            rw [hbp]
            have hsl : (sel p k).length ≤ k := sel_len p k
            clear hbp hpk
            cases bp
            · go_wp2
              have hcg : sel p (k + 1) = sel p k := sel_no Hbp.out
              refine ⟨⟨k + 1, q, capq, aq, by go_num, by omega, rfl, by omega, by rw [hcg]; exact Hql.out, by rw [hcg]; exact hown, hB⟩, by simp [intOf]; omega⟩
            · have hcg : Hid (sel p (k + 1) = sel p k ++ [(k : Int)]) := sel_yes Hbp.out
              have Hown := hid hown
              clear hown
              have yes : most = 0 ∨ q < most → ∀ aq' capq' w', w'.ownsRow W0.heap.size 3 1 (.slice aq' (q + 1) capq') (q + 1) (ints (tk most (sel p k)) ++ [.int .i64 k]) → Below W0.heap.size wr w' →
                  (q + 1 = (tk most (sel p (k + 1))).length ∧ w'.ownsRow W0.heap.size 3 1 (.slice aq' (q + 1) capq') (q + 1) (ints (tk most (sel p (k + 1)))) ∧ Below W0.heap.size W0 w') := fun hw aq' capq' w' ho hb => by
                have ht : tk most (sel p (k + 1)) = tk most (sel p k) ++ [(k : Int)] := by rw [hcg.out]; exact tk_yes _ (by rw [← Hql.out]; exact hw)
                rw [ht, ints_append, ints_one, List.length_append, ← Hql.out]
                exact ⟨rfl, ho, hB.trans hb⟩
              have YES := hid yes
              clear yes
              by_cases hz : most = 0
              · have hz' : ((most : Int) == 0) = true := by simp; omega
                have Hz := hid hz
                clear hz
                go_wp2_with (at_builtin; refine app1 eInt (.tmp 49) (.tmp 51) rfl rfl rfl rfl rfl Hown.out rfl (by omega) (by omega) hsz ?_)
                intro a' cap' w' hown hg hb hf
                obtain ⟨y1, y2, y3⟩ := YES.out (.inl Hz.out) a' cap' w' (by rw [k4]; exact hown) (by rw [k4]; exact hb)
                have Y := hid (And.intro y1 (And.intro y2 y3))
                clear hown hg hb hf y1 y2 y3
                go_wp2
                go_roundw
                case rel => exact ⟨k + 1, q + 1, cap', a', by go_num, by omega, by go_num, by omega, Y.out.1, Y.out.2.1, Y.out.2.2⟩
                case measure => simp [intOf]; omega
              · by_cases hw : q < most
                · have hz' : ((most : Int) == 0) = false := by simp; omega
                  go_wp2_with (at_builtin; refine app1 eInt (.tmp 49) (.tmp 51) rfl rfl rfl rfl rfl Hown.out rfl (by omega) (by omega) hsz ?_)
                  intro a' cap' w' hown hg hb hf
                  obtain ⟨y1, y2, y3⟩ := YES.out (.inr hw) a' cap' w' (by rw [k4]; exact hown) (by rw [k4]; exact hb)
                  have Y := hid (And.intro y1 (And.intro y2 y3))
                  clear hown hg hb hf y1 y2 y3
                  go_wp2
                  go_roundw
                  case rel => exact ⟨k + 1, q + 1, cap', a', by go_num, by omega, by go_num, by omega, Y.out.1, Y.out.2.1, Y.out.2.2⟩
                  case measure => simp [intOf]; omega
                · have hz' : ((most : Int) == 0) = false := by simp; omega
                  have ht : Hid (tk most (sel p (k + 1)) = tk most (sel p k)) := by show _ = _; rw [hcg.out]; exact tk_no _ hz (by rw [← Hql.out]; exact hw)
                  go_wp2
                  refine ⟨⟨k + 1, q, capq, aq, by go_num, by omega, rfl, by omega, by rw [ht.out]; exact Hql.out, by rw [ht.out]; exact Hown.out, hB⟩, by simp [intOf]; omega⟩
      · obtain rfl : k = 64 := by omega
        have hql : q = (tk most (sel p 64)).length := Hql.out
        have HO := hid hown
        have hMA := MAll_any a cap l wr hl (Sl.below hs (K.out.2.2.2.2.trans (hB.mono (by omega)))) hb
        have HM := hid hMA
        clear hMA hs hb hown
        go_wp2_with fail
        refine HM.out.mono ?_
        rintro e w1 ⟨rfl, hm1, hm2, hm3⟩
        have hnil := fun W => run_eq_nilFunc (P := Tryd.prog) (t := 33) (f := .func 80) (a := #[]) (c := #[.pointer (some ⟨wr.heap.size, 0, none⟩)]) (w := W) ⟨_, _, _, Tryd.underlying33⟩
        obtain ⟨xs, hxs⟩ : ∃ xs, sel p 64 = xs := ⟨_, rfl⟩
        rw [hxs] at HO hql
        subst hql
        have hW0w : Below w.heap.size w W0 := K.out.2.2.2.2
        have hB0 : Below w.heap.size w wr := hW0w.trans (hB.mono (by omega))
        have hB1 : Below w.heap.size w w1 := hB0.trans (hm2.mono hB0.size)
        have hwsz := hW0w.size
        have hg1 : w1.cell? ⟨w.heap.size + 1, 0, none⟩ = some (.slice none 0 0) := (hm2.cell (p := ⟨w.heap.size + 1, 0, none⟩) (by simp only []; omega)).trans ((hB.cell (p := ⟨w.heap.size + 1, 0, none⟩) (by simp only []; omega)).trans K.out.2.1)
        have hg2 : w1.cell? ⟨w.heap.size, 0, none⟩ = some (.int .u8 most) := (hm2.cell (p := ⟨w.heap.size, 0, none⟩) (by simp only []; omega)).trans hbm
        have hg3 : w1.frozen? ⟨w.heap.size + 1, 0, none⟩ = false := (hm2.frozen (p := ⟨w.heap.size + 1, 0, none⟩) (by simp only []; omega)).trans ((hB.frozen (p := ⟨w.heap.size + 1, 0, none⟩) (by simp only []; omega)).trans K.out.2.2.1)
        have hT0 := HT.out.1
        have hlen : xs.length ≤ 64 := by rw [← hxs]; exact sel_len p 64
        have hcl := coll_client (w.heap.size + 1) w.heap.size w1.heap.size most (sel (andM l).testBit 64) (Nat.le_trans (sel_len _ _) (by omega)) hm
        have htk : (tk most xs).length ≤ 64 := by
          unfold tk
          split
          · exact hlen
          · rw [List.length_take]; omega
        have hI := MaskIter_any (andM l) wr.heap.size _ _ _ (fun b => b = w.heap.size + 1 ∨ b = w.heap.size) w1 (andM_lt l) hcl ⟨⟨_, hg1, hg2, World.ownsRow_nil _ _ _ _, hg3, by omega, by omega, by omega, Nat.le_refl _, .inl rfl, .inr rfl, fun b hb => (by cases hb), fun b hb => by rcases hb with rfl | rfl <;> omega⟩, fun j h1 h2 => by omega⟩
            hm3 (by rintro (h | h) <;> omega) hm1 (HT.out.later hB1) (by rintro (h | h) <;> omega)
        rw [← Hp.out, hxs] at hI
        have HI := hid hI
        have HB1 := hid hB1
        have HB := hid hB
        have HM2 := hid hm2
        clear hI hg1 hg2 hg3 hm1 hm2 hB0 hB1 hW0w hB hbm hxs HM
        go_wp2_with fail
        refine HI.out.mono ?_
        rintro e W2 ⟨⟨v, rfl⟩, O', hsub, hnew, hE, hend⟩
        have hgot : ∃ ag cg, W2.cell? ⟨w.heap.size + 1, 0, none⟩ = some (.slice ag (tk most xs).length cg) ∧ Sl W2 ag (ints (tk most xs)) := by
          have gen : ∀ k, xs.take k = tk most xs → k ≤ xs.length → CollJ (w.heap.size + 1) w.heap.size w1.heap.size (.int .u8 most) xs k O' W2 → ∃ ag cg, W2.cell? ⟨w.heap.size + 1, 0, none⟩ = some (.slice ag (tk most xs).length cg) ∧ Sl W2 ag (ints (tk most xs)) := by
            rintro k hk hkl ⟨v, c1, c2, c3, _⟩
            obtain ⟨a', cap', rfl, hs, _⟩ := owns_form c3
            have hkk : (tk most xs).length = k := by rw [← hk, List.length_take]; omega
            exact ⟨a', cap', by rw [hkk]; exact c1, by rw [← hk]; exact hs⟩
          rcases hend with ⟨hJ, hj⟩ | ⟨k, hk1, hk2, hJ, hj⟩
          · exact gen xs.length (by rw [tk_all hj, List.take_length]) (Nat.le_refl _) hJ
          · exact gen k (by rw [hj, tk_some (by omega)]) hk2 hJ
        obtain ⟨ag, cg, hc1, hc2⟩ := hgot
        have hwant : Sl W2 aq (ints (tk most xs)) := by
          have ho := owns_agree (w' := W2) HO.out (fun b hb => by
            have hlt := owns_lt HO.out hb
            have h1 := HM2.out.size
            exact (hE.block b (by omega) (by rintro (h | h) <;> omega)).trans (HM2.out.block b hlt.2))
          exact owns_sl ho
        have hB2 : Below w.heap.size w W2 := HB1.out.trans (hE.below (by rintro b (h | h) <;> omega) HB1.out.size)
        have hfin := Ints_any ag aq cg capq (tk most xs) (tk most xs) W2 (by omega) (by omega) hc2 hwant
        have HF := hid hfin
        have HB2 := hid hB2
        clear hfin hB2 hwant hc2 hend hE hnew hsub
        go_wp2_with fail
        refine HF.out.mono ?_
        rintro e W3 ⟨rfl, hb3⟩
        have HB3 : Hid (Below w.heap.size w W3) := HB2.out.trans (hb3.mono HB2.out.size)
        clear hb3
        simp only [decide_true]
        go_wp2_with fail
        refine (c0.out W3 HB3.out).mono ?_
        rintro e W4 ⟨rfl, hb4⟩
        go_wp2
        go_ret
        exact ⟨rfl, HB3.out.trans (hb4.mono HB3.out.size)⟩
end Go.Proofs.YtdggflkkojmabaaDoor

/-
  ferialaw04.WideBoth answers true for every list of sets.
-/
import Derived.Test.YtdggflkkojmabaaDoorWideLives
import Derived.Test.YtdggflkkojmabaaDoorWideBothFun
import Derived.Test.YtdggflkkojmabaaDoorWideRef
import Derived.Test.YtdggflkkojmabaaDoorCollect
namespace Go.Proofs.YtdggflkkojmabaaDoor
open Go.RowKit
set_option linter.unusedVariables false

def allB (L : List (Nat → Nat)) (n : Nat) : Bool := L.all (fun s => bitW s n)
def anyB (L : List (Nat → Nat)) (n : Nat) : Bool := L.any (fun s => bitW s n)
theorem allB_snoc (L : List (Nat → Nat)) (k : Nat) (hk : k < L.length) (n : Nat) : allB (L.take (k + 1)) n = (allB (L.take k) n && bitW L[k] n) := by
  rw [allB, allB, take_snoc' L k hk, List.all_append]; simp
theorem anyB_snoc (L : List (Nat → Nat)) (k : Nat) (hk : k < L.length) (n : Nat) : anyB (L.take (k + 1)) n = (anyB (L.take k) n || bitW L[k] n) := by
  rw [anyB, anyB, take_snoc' L k hk, List.any_append]; simp
theorem fold_and_test (i k : Nat) : ∀ (L : List (Nat → Nat)) (m : Nat), (L.foldl (fun x s => x &&& s i) m).testBit k = (m.testBit k && L.all (fun s => (s i).testBit k))
  | [], m => by simp
  | s :: L, m => by rw [List.foldl_cons, fold_and_test i k L, Nat.testBit_and, List.all_cons, Bool.and_assoc]
theorem fold_or_test (i k : Nat) : ∀ (L : List (Nat → Nat)) (m : Nat), (L.foldl (fun x s => x ||| s i) m).testBit k = (m.testBit k || L.any (fun s => (s i).testBit k))
  | [], m => by simp
  | s :: L, m => by rw [List.foldl_cons, fold_or_test i k L, Nat.testBit_or, List.any_cons, Bool.or_assoc]
theorem in_sel (p : Nat → Bool) (i k : Nat) : inWB (sel p 400) i k = (p (64 * i + k) && decide (64 * i + k < 400)) := by
  rw [inWB, Bool.eq_iff_iff]
  simp only [Bool.and_eq_true, decide_eq_true_eq, sel_mem]
  constructor
  · rintro ⟨⟨j, h1, h2, h3⟩, h4⟩
    have : j = 64 * i + k := by omega
    subst this
    exact ⟨h2, h4⟩
  · rintro ⟨h1, h2⟩
    exact ⟨⟨64 * i + k, h2, h1, rfl⟩, h2⟩
theorem both_eq (L : List (Nat → Nat)) (i : Nat) : bothW L i = wof (sel (allB L) 400) i := by
  refine eq_mk (bothW_lt L i) (fun k hk => ?_)
  rw [in_sel, bothW, fold_and_test, fullW_test, allB]
  have e : (fun s : Nat → Nat => bitW s (64 * i + k)) = fun s => (s i).testBit k := by
    funext s
    rw [bitW, show (64 * i + k) / 64 = i by omega, show (64 * i + k) % 64 = k by omega]
  rw [e]
  simp only [hk, decide_true, Bool.true_and]
  exact Bool.and_comm _ _
theorem some_eq (L : List (Nat → Nat)) (i : Nat) (h : ∀ s ∈ L, s i < 18446744073709551616) : inW (someW L) i = wof (sel (anyB L) 400) i := by
  refine eq_mk (inW_lt i (someW_lt L i h)) (fun k hk => ?_)
  rw [in_sel, inW, Nat.testBit_and, someW, fold_or_test, fullW_test, anyB]
  have e : (fun s : Nat → Nat => bitW s (64 * i + k)) = fun s => (s i).testBit k := by
    funext s
    rw [bitW, show (64 * i + k) / 64 = i by omega, show (64 * i + k) % 64 = k by omega]
  rw [e]
  simp [hk]

/-- the two lists that are gathered -/
def Two (w W : World) (v3 : Value) (n3 : Nat) (l3 : List Int) (v4 : Value) (n4 : Nat) (l4 : List Int) : Prop :=
  W.ownsRow w.heap.size 3 1 v3 n3 (ints l3) ∧ W.ownsRow w.heap.size 3 1 v4 n4 (ints l4) ∧ (∀ b, v3.ownBlock = some b → v4.ownBlock ≠ some b) ∧ Below w.heap.size w W
theorem Two.below {w W W' : World} {v3 v4 : Value} {n3 n4 : Nat} {l3 l4 : List Int} (h : Two w W v3 n3 l3 v4 n4 l4) (hb : Below W.heap.size W W') : Two w W' v3 n3 l3 v4 n4 l4 :=
  ⟨owns_below h.1 hb (Nat.le_refl _), owns_below h.2.1 hb (Nat.le_refl _), h.2.2.1, h.2.2.2.trans (hb.mono h.2.2.2.size)⟩
theorem Two.put3 {w W w' : World} {v3 v4 : Value} {n3 n4 : Nat} {l3 l4 : List Int} (h : Two w W v3 n3 l3 v4 n4 l4) {a : Option Addr} {cap : Nat} {x : Int}
    (ho : w'.ownsRow w.heap.size 3 1 (.slice a (n3 + 1) cap) (n3 + 1) (ints l3 ++ [.int .i64 x])) (hg : W.grownBy w' v3.ownBlock) (hb : Below w.heap.size W w')
    (hf : ∀ k, Value.ownBlock (.slice a (n3 + 1) cap) = some k → v3.ownBlock = some k ∨ W.heap.size ≤ k) : Two w w' (.slice a (n3 + 1) cap) (n3 + 1) (l3 ++ [x]) v4 n4 l4 := by
  obtain ⟨h1, h2, h3, h4⟩ := h
  refine ⟨by rw [ints_append, ints_one]; exact ho, owns_agree h2 (fun b e => hg.block b (owns_lt h2 e).2 (fun e' => h3 b e'.symm e)), fun b e e' => ?_, h4.trans hb⟩
  rcases hf b e with h | h
  · exact h3 b h e'
  · have := (owns_lt h2 e').2; omega
theorem Two.put4 {w W w' : World} {v3 v4 : Value} {n3 n4 : Nat} {l3 l4 : List Int} (h : Two w W v3 n3 l3 v4 n4 l4) {a : Option Addr} {cap : Nat} {x : Int}
    (ho : w'.ownsRow w.heap.size 3 1 (.slice a (n4 + 1) cap) (n4 + 1) (ints l4 ++ [.int .i64 x])) (hg : W.grownBy w' v4.ownBlock) (hb : Below w.heap.size W w')
    (hf : ∀ k, Value.ownBlock (.slice a (n4 + 1) cap) = some k → v4.ownBlock = some k ∨ W.heap.size ≤ k) : Two w w' v3 n3 l3 (.slice a (n4 + 1) cap) (n4 + 1) (l4 ++ [x]) := by
  obtain ⟨h1, h2, h3, h4⟩ := h
  refine ⟨owns_agree h1 (fun b e => hg.block b (owns_lt h1 e).2 (fun e' => h3 b e e'.symm)), by rw [ints_append, ints_one]; exact ho, fun b e e' => ?_, h4.trans hb⟩
  rcases hf b e' with h | h
  · exact h3 b e h
  · have := (owns_lt h1 e).2; omega

/-- what the statement's region reads -/
abbrev WtS (w : World) (a a3 a4 : Option Addr) (L : List (Nat → Nat)) (xs ys : List Int) (W : World) : Prop := Hid (Sl W a (sets L) ∧ Sl W a3 (ints xs) ∧ Sl W a4 (ints ys) ∧ Below w.heap.size w W)
theorem WtS.keep {w W W' : World} {a a3 a4 : Option Addr} {L : List (Nat → Nat)} {xs ys : List Int} (h : WtS w a a3 a4 L xs ys W) (hb : Below W.heap.size W W') : WtS w a a3 a4 L xs ys W' :=
  ⟨h.out.1.below hb, h.out.2.1.below hb, h.out.2.2.1.below hb, h.out.2.2.2.trans (hb.mono h.out.2.2.2.size)⟩

set_option maxRecDepth 100000 in
set_option maxHeartbeats 8000000 in
theorem WideBoth_walk (a : Option Addr) (cap : Nat) (L : List (Nat → Nat)) (w : World) (hl : L.length ≤ 9223372036854775807) (_ : L.length ≤ cap) (hsl : Sl w a (sets L))
    (hs : ∀ s ∈ L, ∀ i, i < 7 → s i < 18446744073709551616) (hT : Tab w) :
    Calls Tryd.prog 15 #[.slice a L.length cap] w fun e w' => e = .returned (.bool true) ∧ Below w.heap.size w w' := by
  have HT := hid hT
  have cL := hid (fun W (h : Below w.heap.size w W) => lives04_any W (HT.out.later h))
  clear hT
  by_cases h20 : 20 < L.length
  · have h5 : (20 : Int) < (L.length : Int) := by omega
    clear h20
    go_enter Tryd.func15, Tryd.ntmps15
    go_wp2_with fail
    refine (cL.out _ (Below.refl _ _)).mono ?_
    rintro e w1 ⟨rfl, hb1⟩
    go_wp2
    go_ret
    exact ⟨rfl, hb1⟩
  · have h5 : ¬ (20 : Int) < (L.length : Int) := by omega
    have Hsl := hid hsl
    have Hs := hid hs
    clear hsl hs h20
    go_enter Tryd.func15, Tryd.ntmps15
    go_wp2_with fail
    go_loopw [3, 4, 5] (fun x3 x4 x5 wr => ∃ (n n3 n4 cap3 cap4 : Nat) (a3 a4 : Option Addr), x3 = .slice a3 n3 cap3 ∧ x4 = .slice a4 n4 cap4 ∧ x5 = .int .i64 n ∧ Hid (n ≤ 400) ∧ Hid (n3 = (sel (allB L) n).length ∧ n4 = (sel (anyB L) n).length) ∧
      Hid (Two w wr (.slice a3 n3 cap3) n3 (sel (allB L) n) (.slice a4 n4 cap4) n4 (sel (anyB L) n))) (fun _ _ i _ => (400 - intOf i).toNat)
    case atStart =>
      exact ⟨0, 0, 0, 0, 0, none, none, rfl, rfl, rfl, by show (0 : Nat) ≤ 400; omega, ⟨rfl, rfl⟩, World.ownsRow_nil _ _ _ _, World.ownsRow_nil _ _ _ _, (fun b h => nomatch h), Below.refl _ _⟩
    case round =>
      obtain ⟨wo, rfl⟩ : ∃ wo : World, wo = wr := ⟨_, rfl⟩
      obtain ⟨n, n3, n4, cap3, cap4, a3, a4, rfl, rfl, rfl, hn, hlen, HTw⟩ := hrel
      by_cases hlt : (n : Int) < 400
      · have hnI : (n : Int) < 500 := by omega
        go_wp2_with fail
        go_loopw [6, 7, 8] (fun x6 x7 x8 wq => ∃ k : Nat, x6 = .bool (allB (L.take k) n) ∧ x7 = .bool (anyB (L.take k) n) ∧ x8 = .int .i64 k ∧ Hid (k ≤ L.length) ∧ Hid (Two w wq (.slice a3 n3 cap3) n3 (sel (allB L) n) (.slice a4 n4 cap4) n4 (sel (anyB L) n))) (fun _ _ i _ => L.length - (intOf i).toNat)
        case atStart => exact ⟨0, rfl, rfl, rfl, Nat.zero_le _, HTw.out⟩
        case round =>
          obtain ⟨k, rfl, rfl, rfl, hk, HJ⟩ := hrel
          by_cases hkl : k < L.length
          · obtain ⟨b, off, rfl, hbk, hc⟩ := Hsl.out.atW hkl
            have hcell := fun i hi => (HJ.out.2.2.2.cell (p := ⟨b, off + k * 7 + i, none⟩) hbk).trans (hc k hkl i hi)
            have hsn := hid (allB_snoc L k hkl n)
            have hsm := hid (anyB_snoc L k hkl n)
            have H2 : Hid (Calls Tryd.prog 63 #[wv L[k], .int .i64 n] wr fun e w' => e = .returned (.bool (bitW L[k] n)) ∧ Below wr.heap.size wr w') := by
              have := RHasW_any L[k] n wr (Hs.out L[k] (List.getElem_mem hkl))
              have e : hasW L[k] (n : Int) = bitW L[k] n := by simp [hasW, mayB]; omega
              rw [e] at this; exact this
            obtain ⟨s, hsk⟩ : ∃ s, L[k] = s := ⟨_, rfl⟩
            rw [hsk] at hcell hsn hsm H2
            have e0 := hcell 0 (by omega)
            have e1 := hcell 1 (by omega)
            have e2 := hcell 2 (by omega)
            have e3 := hcell 3 (by omega)
            have e4 := hcell 4 (by omega)
            have e5 := hcell 5 (by omega)
            have e6 := hcell 6 (by omega)
            rw [Nat.add_zero] at e0
            obtain ⟨r, hr⟩ : ∃ r, bitW s n = r := ⟨_, rfl⟩
            obtain ⟨p, hp⟩ : ∃ p, allB (L.take k) n = p := ⟨_, rfl⟩
            obtain ⟨q, hq⟩ : ∃ q, anyB (L.take k) n = q := ⟨_, rfl⟩
            rw [hr] at hsn hsm H2
            rw [hp] at hsn ⊢
            rw [hq] at hsm ⊢
            clear hc hcell hsk hr hp hq
            have hkI : (k : Int) < (L.length : Int) := by omega
            go_wp2_with fail
            refine H2.out.mono ?_
            rintro e w1 ⟨rfl, hb1⟩
            have HJ1 := hid (HJ.out.below hb1)
            clear hb1 e0 e1 e2 e3 e4 e5 e6
            cases p <;> cases q
            all_goals
              go_wp2
              exact ⟨⟨k + 1, by rw [hsn.out]; rfl, by rw [hsm.out]; rfl, by go_num, hkl, HJ1.out⟩, by simp [intOf]; omega⟩
          · have hke : L.take k = L := List.take_of_length_le (by omega)
            rw [hke]
            have h400 : n3 ≤ 400 ∧ n4 ≤ 400 := by
              have h1 := sel_len (allB L) n
              have h2 := sel_len (anyB L) n
              have h3 := hlen.out
              have h4 := hn.out
              omega
            obtain ⟨m3, m4⟩ := h400
            have hkI : ¬ (k : Int) < (L.length : Int) := by omega
            have HB := hid HJ.out.2.2.2
            have hsz := HB.out.size
            cases hp : allB L n
            · have Hy := hid (sel_no (p := allB L) hp)
              clear hp
              cases hq : anyB L n
              · have Hz := hid (sel_no (p := anyB L) hq)
                clear hq hke
                go_wp2
                exact ⟨⟨n + 1, n3, n4, cap3, cap4, a3, a4, rfl, rfl, by go_num, by show n + 1 ≤ 400; omega, by rw [Hy.out, Hz.out]; exact hlen.out, by rw [Hy.out, Hz.out]; exact HJ.out⟩, by simp [intOf]; omega⟩
              · have Hz := hid (sel_yes (p := anyB L) hq)
                clear hq hke
                go_wp2_with (at_builtin; refine app1 eInt (.tmp 44) (.tmp 46) rfl rfl rfl rfl rfl HJ.out.2.1 rfl (by omega) (by omega) (by omega) ?_)
                intro a' cap' w' hown2 hg2 hb2 hf2
                have HK := hid (HJ.out.put4 hown2 hg2 hb2 hf2)
                clear hown2 hg2 hb2 hf2
                go_wp2
                exact ⟨⟨n + 1, n3, n4 + 1, cap3, cap', a3, a', rfl, rfl, by go_num, by show n + 1 ≤ 400; omega, by rw [Hy.out, Hz.out, List.length_append]; exact ⟨hlen.out.1, by rw [hlen.out.2]; rfl⟩, by rw [Hy.out, Hz.out]; exact HK.out⟩, by simp [intOf]; omega⟩
            · have Hy := hid (sel_yes (p := allB L) hp)
              clear hp
              cases hq : anyB L n
              · have Hz := hid (sel_no (p := anyB L) hq)
                clear hq hke
                go_wp2_with (at_builtin; refine app1 eInt (.tmp 39) (.tmp 41) rfl rfl rfl rfl rfl HJ.out.1 rfl (by omega) (by omega) (by omega) ?_)
                intro a' cap' w' hown2 hg2 hb2 hf2
                have HK := hid (HJ.out.put3 hown2 hg2 hb2 hf2)
                clear hown2 hg2 hb2 hf2
                go_wp2
                exact ⟨⟨n + 1, n3 + 1, n4, cap', cap4, a', a4, rfl, rfl, by go_num, by show n + 1 ≤ 400; omega, by rw [Hy.out, Hz.out, List.length_append]; exact ⟨by rw [hlen.out.1]; rfl, hlen.out.2⟩, by rw [Hy.out, Hz.out]; exact HK.out⟩, by simp [intOf]; omega⟩
              · have Hz := hid (sel_yes (p := anyB L) hq)
                clear hq hke
                go_wp2_with (at_builtin; refine app1 eInt (.tmp 39) (.tmp 41) rfl rfl rfl rfl rfl HJ.out.1 rfl (by omega) (by omega) (by omega) ?_)
                intro a' cap' w' hown2 hg2 hb2 hf2
                have HK := hid (HJ.out.put3 hown2 hg2 hb2 hf2)
                have hsz2 := HK.out.2.2.2.size
                clear hown2 hg2 hb2 hf2
                go_wp2_with (at_builtin; refine app1 eInt (.tmp 44) (.tmp 46) rfl rfl rfl rfl rfl HK.out.2.1 rfl (by omega) (by omega) (by omega) ?_)
                intro a2 cap2 w2 hown3 hg3 hb3 hf3
                have HM := hid (HK.out.put4 hown3 hg3 hb3 hf3)
                clear hown3 hg3 hb3 hf3
                go_wp2
                exact ⟨⟨n + 1, n3 + 1, n4 + 1, cap', cap2, a', a2, rfl, rfl, by go_num, by show n + 1 ≤ 400; omega, by rw [Hy.out, Hz.out, List.length_append, List.length_append]; exact ⟨by rw [hlen.out.1]; rfl, by rw [hlen.out.2]; rfl⟩, by rw [Hy.out, Hz.out]; exact HM.out⟩, by simp [intOf]; omega⟩
      · have hnn : n = 400 := by have := hn.out; omega
        have hT' := HTw.out
        have hlen' := hlen.out
        rw [hnn] at hT' hlen'
        have g1 := eqW_iff (bothW L) (wof (sel (allB L) 400))
        have g2 := eqW_iff (inW (someW L)) (wof (sel (anyB L) 400))
        have g1' : eqW (bothW L) (wof (sel (allB L) 400)) = true := g1.mpr fun i hi => both_eq L i
        have g2' : eqW (inW (someW L)) (wof (sel (anyB L) 400)) = true := g2.mpr fun i hi => some_eq L i (fun s h => Hs.out s h i hi)
        have e1 := fun W => run_eql_wv (bothW L) (wof (sel (allB L) 400)) W
        have e2 := fun W => run_eql_wv (inW (someW L)) (wof (sel (anyB L) 400)) W
        rw [g1'] at e1
        rw [g2'] at e2
        have l3 := sel_len (allB L) 400
        have l4 := sel_len (anyB L) 400
        obtain ⟨xs, hxs⟩ : ∃ xs, sel (allB L) 400 = xs := ⟨_, rfl⟩
        obtain ⟨ys, hys⟩ : ∃ ys, sel (anyB L) 400 = ys := ⟨_, rfl⟩
        rw [hxs] at hT' hlen' e1 l3
        rw [hys] at hT' hlen' e2 l4
        obtain ⟨rfl, rfl⟩ := hlen'
        have d1 := hid (fun W (h : Sl W a (sets L)) => WBoth_any a cap L W hl h Hs.out)
        have d2 := hid (fun W (h : Sl W a (sets L)) => WEither_any a cap L W hl h Hs.out)
        have d3 := hid (fun W (h : Sl W a3 (ints xs)) => ROfW_any a3 cap3 xs W (by omega) h)
        have d4 := hid (fun W (h : Sl W a4 (ints ys)) => ROfW_any a4 cap4 ys W (by omega) h)
        obtain ⟨t1, ht1⟩ : ∃ t, bothW L = t := ⟨_, rfl⟩
        obtain ⟨t2, ht2⟩ : ∃ t, inW (someW L) = t := ⟨_, rfl⟩
        obtain ⟨t3, ht3⟩ : ∃ t, wof xs = t := ⟨_, rfl⟩
        obtain ⟨t4, ht4⟩ : ∃ t, wof ys = t := ⟨_, rfl⟩
        rw [ht1] at d1 e1
        rw [ht2] at d2 e2
        rw [ht3] at d3 e1
        rw [ht4] at d4 e2
        have HS : Hid (WtS w a a3 a4 L xs ys wo) := by
          obtain ⟨h1, h2, h3, h4⟩ := hT'
          obtain ⟨_, _, e, s3, _⟩ := owns_form h1
          cases e
          obtain ⟨_, _, e, s4, _⟩ := owns_form h2
          cases e
          exact ⟨Hsl.out.below h4, s3, s4, h4⟩
        have HS2 : Hid (WtS w a a3 a4 L xs ys wo.drew) := WtS.keep HS.out ((Below.refl _ _).drew)
        have m1 := hid (fun W (h : WtS w a a3 a4 L xs ys W) => keep_of (d1.out W h.out.1) (fun _ => h.keep))
        have m2 := hid (fun W (h : WtS w a a3 a4 L xs ys W) => keep_of (d2.out W h.out.1) (fun _ => h.keep))
        have m3 := hid (fun W (h : WtS w a a3 a4 L xs ys W) => keep_of (d3.out W h.out.2.1) (fun _ => h.keep))
        have m4 := hid (fun W (h : WtS w a a3 a4 L xs ys W) => keep_of (d4.out W h.out.2.2.1) (fun _ => h.keep))
        have m5 := hid (fun W (h : WtS w a a3 a4 L xs ys W) => keep_of (cL.out W h.out.2.2.2) (fun _ => h.keep))
        clear hnn hT' g1 g2 g1' g2' hxs hys d1 d2 d3 d4 ht1 ht2 ht3 ht4 hlen HTw l3 l4 hn
        go_wp2_with fail
        refine (m1.out _ HS.out).mono ?_
        rintro e v0 ⟨rfl, hS0⟩
        go_wp2_with fail
        refine (m3.out _ hS0).mono ?_
        rintro e v1 ⟨rfl, hS1⟩
        go_wp2_with fail
        refine (m2.out _ hS1).mono ?_
        rintro e v2 ⟨rfl, hS2⟩
        go_wp2_with fail
        refine (m4.out _ hS2).mono ?_
        rintro e v3 ⟨rfl, hS3⟩
        go_wp2_with fail
        refine (m5.out _ hS3).mono ?_
        rintro e v4 ⟨rfl, hS4⟩
        go_wp2
        go_ret
        exact ⟨rfl, hS4.out.2.2.2⟩
end Go.Proofs.YtdggflkkojmabaaDoor

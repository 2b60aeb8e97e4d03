/-
  ferialaw19.SeekPrev answers true for every clauses and instant.
-/
import Derived.Test.YtcbanlgnanihhaaGreatDoorQ52bd17
import Derived.BigRegion
namespace Go.Proofs.YtcbanlgnanihhaaGreatDoor
open Go.RowKit Go.Maps
set_option linter.unusedVariables false

theorem fault_nil : faultL [] = 0 := by rw [faultL]; rfl
theorem prev_nil (t : Int) : prevP [] t = (0, 15) := prevP_none fault_nil fun y _ => rfl
theorem ends_cases {l : List Cl} (hf : faultL l = 0) : (∃ x y, nextP l (-1) = (x, 0) ∧ prevP l 12622780800 = (y, 0) ∧ x ≤ y) ∨ (nextP l (-1) = (0, 15) ∧ prevP l 12622780800 = (0, 15)) := by
  rcases next_cases (t := -1) hf with ⟨x, e1, g1, g2, g3⟩ | ⟨e1, g⟩
  · rcases prev_cases (t := 12622780800) hf with ⟨y, e2, f1, f2, f3⟩ | ⟨e2, f⟩
    · refine .inl ⟨x, y, e1, e2, ?_⟩
      apply Int.le_of_not_gt
      intro h3
      have := f3 x h3 (inst_win g1).2
      rw [g1] at this; cases this
    · have := f x (inst_win g1).2; rw [g1] at this; cases this
  · rcases prev_cases (t := 12622780800) hf with ⟨y, e2, f1, f2, f3⟩ | ⟨e2, f⟩
    · have := g y (by have := (inst_win f1).1; omega); rw [f1] at this; cases this
    · exact .inr ⟨e1, e2⟩
set_option maxRecDepth 100000 in
set_option maxHeartbeats 6400000 in
theorem SeekPrev_walk (a : Option Addr) (cap : Nat) (l : List Cl) (t : Int) (w : World) (hl : l.length ≤ 9223372036854775807) (hlc : l.length ≤ cap) (hs : Sl w a (cls l)) (hno : a = none → cap = 0) (hok : ∀ c ∈ l, c.Ok) (ht0 : -9223372036854775808 ≤ t) (ht1 : t ≤ 9223372036854775807) (hT : Tab w) :
    Calls Tryz.prog 9 #[.slice a l.length cap, .int .i64 t] w fun e w' => e = .returned (.bool true) ∧ Below w.heap.size w w' := by
  have cL := hid (fun W (hB : Below w.heap.size w W) => Lives19_any W (hT.later hB))
  have cE := hid (fun W (hB : Below w.heap.size w W) => SkPrev_any none 0 [] t W (by simp) (by simp) (.inl rfl) (fun _ => rfl) (by simp) (hT.later hB))
  rw [prev_nil] at cE
  by_cases h20 : 20 < l.length
  · clear hs hok hno hT
    have q1 := hid (cE.out w (Below.refl _ _))
    go_enter Tryz.func9, Tryz.ntmps9
    go_wp2_with fail
    refine q1.out.mono ?_
    rintro e w1 ⟨rfl, hB⟩
    have HB1 := hid (hB)
    clear hB q1 
    have q2 := hid (cL.out w1 HB1.out)
    go_wp2_with fail
    refine q2.out.mono ?_
    rintro e w2 ⟨rfl, hB⟩
    have HB2 := hid (HB1.out.trans (hB.mono HB1.out.size))
    clear hB q2 
    go_wp2
    go_ret
    exact ⟨rfl, HB2.out⟩
  have hl1 : l.length ≤ 1000 := by omega
  have cM := hid (fun W (hB : Below w.heap.size w W) => RMay17_any a cap l W hl1 (hs.below hB) hok)
  have cN := hid (fun (x : Int) W (hB : Below w.heap.size w W) => SkNext_any a cap l x W hl hlc (hs.below hB) hno hok (hT.later hB))
  have cP := hid (fun (x : Int) W (hB : Below w.heap.size w W) => SkPrev_any a cap l x W hl hlc (hs.below hB) hno hok (hT.later hB))
  have cF := hid (fun W (hB : Below w.heap.size w W) => SkFirst_any a cap l W hl hlc (hs.below hB) hno hok (hT.later hB))
  have cZ := hid (fun W (hB : Below w.heap.size w W) => SkLast_any a cap l W hl hlc (hs.below hB) hno hok (hT.later hB))
  have cH := hid (fun (x : Int) W (hB : Below w.heap.size w W) => RHas17_any a cap l x W hl1 (hs.below hB) hok)
  have cB := hid (fun (f u : Int) h1 h2 h3 W (hB : Below w.heap.size w W) => Btw_any a cap l f u W hl1 (hs.below hB) hok h1 h2 h3)
  clear hs hok hno hT
  by_cases hf : faultL l = 0
  rotate_left
  · have q1 := hid (cM.out w (Below.refl _ _))
    rw [may_fault, decide_eq_false hf] at q1
    clear hf
    go_enter Tryz.func9, Tryz.ntmps9
    go_wp2_with fail
    refine q1.out.mono ?_
    rintro e w1 ⟨rfl, hB⟩
    have HB1 := hid (hB)
    clear hB q1 
    have q2 := hid (cE.out w1 HB1.out)
    go_wp2_with fail
    refine q2.out.mono ?_
    rintro e w2 ⟨rfl, hB⟩
    have HB2 := hid (HB1.out.trans (hB.mono HB1.out.size))
    clear hB q2 
    have q3 := hid (cL.out w2 HB2.out)
    go_wp2_with fail
    refine q3.out.mono ?_
    rintro e w3 ⟨rfl, hB⟩
    have HB3 := hid (HB2.out.trans (hB.mono HB2.out.size))
    clear hB q3 
    go_wp2
    go_ret
    exact ⟨rfl, HB3.out⟩
  have q1 := hid (cM.out w (Below.refl _ _))
  rw [may_fault, decide_eq_true hf] at q1
  have cP2 := hid (fun W (hB : Below w.heap.size w W) => cP.out 9223372036854775807 W hB)
  rw [prev_far (by omega)] at cP2
  have cN2 := hid (fun W (hB : Below w.heap.size w W) => cN.out (-1) W hB)
  have cP1 := hid (fun W (hB : Below w.heap.size w W) => cP.out t W hB)
  have hpc : Hid ((∃ x, prevP l t = (x, 0) ∧ 0 ≤ x ∧ x < 12622780800 ∧ x < t ∧ hasL l x = true ∧ Hid (LastI l t x)) ∨ (prevP l t = (0, 15) ∧ Hid (∀ y, y < t → instB l y = false))) := by
    rcases prev_cases (t := t) hf with ⟨x, e, hx⟩ | ⟨e, hx⟩
    · have := inst_win hx.1
      exact .inl ⟨x, e, this.1, this.2, hx.2.1, by rw [hasL, may_fault, decide_eq_true hf, Bool.true_and]; exact hx.1, hx⟩
    · exact .inr ⟨e, hx⟩
  have hec := ends_cases hf
  clear hf cE cM
  rcases hec with ⟨fa, fz, en, ep, hle⟩ | ⟨en, ep⟩ <;> rcases hpc.out with ⟨x, fp, x0, x1, xt, hh, hL⟩ | ⟨fp, hL⟩
  · rw [en] at cF cN2
    rw [ep] at cZ cP2
    have d9 : decide (fa ≤ fz) = true := decide_eq_true hle
    clear hle
    rw [fp] at cP1
    have qH := hid (fun W (hB : Below w.heap.size w W) => cH.out x W hB)
    rw [hh] at qH
    have d1 : decide (t ≤ x) = false := decide_eq_false (by omega)
    clear en ep fp hh
    go_enter Tryz.func9, Tryz.ntmps9
    go_wp2_with fail
    refine q1.out.mono ?_
    rintro e w1 ⟨rfl, hB⟩
    have HB1 := hid (hB)
    clear hB q1 
    have q2 := hid (cP1.out w1 HB1.out)
    go_wp2_with fail
    refine q2.out.mono ?_
    rintro e w2 ⟨rfl, hB⟩
    have HB2 := hid (HB1.out.trans (hB.mono HB1.out.size))
    clear hB q2 
    have q3 := hid (qH.out w2 HB2.out)
    go_wp2_with fail
    refine q3.out.mono ?_
    rintro e w3 ⟨rfl, hB⟩
    have HB3 := hid (HB2.out.trans (hB.mono HB2.out.size))
    clear hB q3 
    go_wp2_with fail
    refine (cB.out _ _ (by omega) (by omega) (fun y g1 g2 => hL.out.2.2 y (by omega) (by omega)) _ HB3.out).mono ?_
    rintro e w4 ⟨rfl, hB⟩
    have HB4 := hid (HB3.out.trans (hB.mono HB3.out.size))
    clear hB
    have q5 := hid (cF.out w4 HB4.out)
    go_wp2_with fail
    refine q5.out.mono ?_
    rintro e w5 ⟨rfl, hB⟩
    have HB5 := hid (HB4.out.trans (hB.mono HB4.out.size))
    clear hB q5 
    have q6 := hid (cN2.out w5 HB5.out)
    go_wp2_with fail
    refine q6.out.mono ?_
    rintro e w6 ⟨rfl, hB⟩
    have HB6 := hid (HB5.out.trans (hB.mono HB5.out.size))
    clear hB q6 
    have q7 := hid (cZ.out w6 HB6.out)
    go_wp2_with fail
    refine q7.out.mono ?_
    rintro e w7 ⟨rfl, hB⟩
    have HB7 := hid (HB6.out.trans (hB.mono HB6.out.size))
    clear hB q7 
    have q8 := hid (cP2.out w7 HB7.out)
    go_wp2_with fail
    refine q8.out.mono ?_
    rintro e w8 ⟨rfl, hB⟩
    have HB8 := hid (HB7.out.trans (hB.mono HB7.out.size))
    clear hB q8 
    have q9 := hid (cL.out w8 HB8.out)
    go_wp2_with fail
    refine q9.out.mono ?_
    rintro e w9 ⟨rfl, hB⟩
    have HB9 := hid (HB8.out.trans (hB.mono HB8.out.size))
    clear hB q9 
    go_wp2
    go_ret
    exact ⟨rfl, HB9.out⟩
  · rw [en] at cF cN2
    rw [ep] at cZ cP2
    have d9 : decide (fa ≤ fz) = true := decide_eq_true hle
    clear hle
    rw [fp] at cP1
    clear en ep fp
    by_cases ht : 0 < t
    · have d1 : decide (0 < t) = true := decide_eq_true ht
      go_enter Tryz.func9, Tryz.ntmps9
      go_wp2_with fail
      refine q1.out.mono ?_
      rintro e w1 ⟨rfl, hB⟩
      have HB1 := hid (hB)
      clear hB q1 
      have q2 := hid (cP1.out w1 HB1.out)
      go_wp2_with fail
      refine q2.out.mono ?_
      rintro e w2 ⟨rfl, hB⟩
      have HB2 := hid (HB1.out.trans (hB.mono HB1.out.size))
      clear hB q2 
      go_wp2_with fail
      refine (cB.out _ _ (by omega) (by omega) (fun y g1 g2 => hL.out y (by omega)) _ HB2.out).mono ?_
      rintro e w3 ⟨rfl, hB⟩
      have HB3 := hid (HB2.out.trans (hB.mono HB2.out.size))
      clear hB
      have q4 := hid (cF.out w3 HB3.out)
      go_wp2_with fail
      refine q4.out.mono ?_
      rintro e w4 ⟨rfl, hB⟩
      have HB4 := hid (HB3.out.trans (hB.mono HB3.out.size))
      clear hB q4 
      have q5 := hid (cN2.out w4 HB4.out)
      go_wp2_with fail
      refine q5.out.mono ?_
      rintro e w5 ⟨rfl, hB⟩
      have HB5 := hid (HB4.out.trans (hB.mono HB4.out.size))
      clear hB q5 
      have q6 := hid (cZ.out w5 HB5.out)
      go_wp2_with fail
      refine q6.out.mono ?_
      rintro e w6 ⟨rfl, hB⟩
      have HB6 := hid (HB5.out.trans (hB.mono HB5.out.size))
      clear hB q6 
      have q7 := hid (cP2.out w6 HB6.out)
      go_wp2_with fail
      refine q7.out.mono ?_
      rintro e w7 ⟨rfl, hB⟩
      have HB7 := hid (HB6.out.trans (hB.mono HB6.out.size))
      clear hB q7 
      have q8 := hid (cL.out w7 HB7.out)
      go_wp2_with fail
      refine q8.out.mono ?_
      rintro e w8 ⟨rfl, hB⟩
      have HB8 := hid (HB7.out.trans (hB.mono HB7.out.size))
      clear hB q8 
      go_wp2
      go_ret
      exact ⟨rfl, HB8.out⟩
    · have d1 : decide (0 < t) = false := decide_eq_false ht
      go_enter Tryz.func9, Tryz.ntmps9
      go_wp2_with fail
      refine q1.out.mono ?_
      rintro e w1 ⟨rfl, hB⟩
      have HB1 := hid (hB)
      clear hB q1 
      have q2 := hid (cP1.out w1 HB1.out)
      go_wp2_with fail
      refine q2.out.mono ?_
      rintro e w2 ⟨rfl, hB⟩
      have HB2 := hid (HB1.out.trans (hB.mono HB1.out.size))
      clear hB q2 
      have q3 := hid (cF.out w2 HB2.out)
      go_wp2_with fail
      refine q3.out.mono ?_
      rintro e w3 ⟨rfl, hB⟩
      have HB3 := hid (HB2.out.trans (hB.mono HB2.out.size))
      clear hB q3 
      have q4 := hid (cN2.out w3 HB3.out)
      go_wp2_with fail
      refine q4.out.mono ?_
      rintro e w4 ⟨rfl, hB⟩
      have HB4 := hid (HB3.out.trans (hB.mono HB3.out.size))
      clear hB q4 
      have q5 := hid (cZ.out w4 HB4.out)
      go_wp2_with fail
      refine q5.out.mono ?_
      rintro e w5 ⟨rfl, hB⟩
      have HB5 := hid (HB4.out.trans (hB.mono HB4.out.size))
      clear hB q5 
      have q6 := hid (cP2.out w5 HB5.out)
      go_wp2_with fail
      refine q6.out.mono ?_
      rintro e w6 ⟨rfl, hB⟩
      have HB6 := hid (HB5.out.trans (hB.mono HB5.out.size))
      clear hB q6 
      have q7 := hid (cL.out w6 HB6.out)
      go_wp2_with fail
      refine q7.out.mono ?_
      rintro e w7 ⟨rfl, hB⟩
      have HB7 := hid (HB6.out.trans (hB.mono HB6.out.size))
      clear hB q7 
      go_wp2
      go_ret
      exact ⟨rfl, HB7.out⟩
  · rw [en] at cF cN2
    rw [ep] at cZ cP2
    rw [fp] at cP1
    have qH := hid (fun W (hB : Below w.heap.size w W) => cH.out x W hB)
    rw [hh] at qH
    have d1 : decide (t ≤ x) = false := decide_eq_false (by omega)
    clear en ep fp hh
    go_enter Tryz.func9, Tryz.ntmps9
    go_wp2_with fail
    refine q1.out.mono ?_
    rintro e w1 ⟨rfl, hB⟩
    have HB1 := hid (hB)
    clear hB q1 
    have q2 := hid (cP1.out w1 HB1.out)
    go_wp2_with fail
    refine q2.out.mono ?_
    rintro e w2 ⟨rfl, hB⟩
    have HB2 := hid (HB1.out.trans (hB.mono HB1.out.size))
    clear hB q2 
    have q3 := hid (qH.out w2 HB2.out)
    go_wp2_with fail
    refine q3.out.mono ?_
    rintro e w3 ⟨rfl, hB⟩
    have HB3 := hid (HB2.out.trans (hB.mono HB2.out.size))
    clear hB q3 
    go_wp2_with fail
    refine (cB.out _ _ (by omega) (by omega) (fun y g1 g2 => hL.out.2.2 y (by omega) (by omega)) _ HB3.out).mono ?_
    rintro e w4 ⟨rfl, hB⟩
    have HB4 := hid (HB3.out.trans (hB.mono HB3.out.size))
    clear hB
    have q5 := hid (cF.out w4 HB4.out)
    go_wp2_with fail
    refine q5.out.mono ?_
    rintro e w5 ⟨rfl, hB⟩
    have HB5 := hid (HB4.out.trans (hB.mono HB4.out.size))
    clear hB q5 
    have q6 := hid (cN2.out w5 HB5.out)
    go_wp2_with fail
    refine q6.out.mono ?_
    rintro e w6 ⟨rfl, hB⟩
    have HB6 := hid (HB5.out.trans (hB.mono HB5.out.size))
    clear hB q6 
    have q7 := hid (cZ.out w6 HB6.out)
    go_wp2_with fail
    refine q7.out.mono ?_
    rintro e w7 ⟨rfl, hB⟩
    have HB7 := hid (HB6.out.trans (hB.mono HB6.out.size))
    clear hB q7 
    have q8 := hid (cP2.out w7 HB7.out)
    go_wp2_with fail
    refine q8.out.mono ?_
    rintro e w8 ⟨rfl, hB⟩
    have HB8 := hid (HB7.out.trans (hB.mono HB7.out.size))
    clear hB q8 
    have q9 := hid (cL.out w8 HB8.out)
    go_wp2_with fail
    refine q9.out.mono ?_
    rintro e w9 ⟨rfl, hB⟩
    have HB9 := hid (HB8.out.trans (hB.mono HB8.out.size))
    clear hB q9 
    go_wp2
    go_ret
    exact ⟨rfl, HB9.out⟩
  · rw [en] at cF cN2
    rw [ep] at cZ cP2
    rw [fp] at cP1
    clear en ep fp
    by_cases ht : 0 < t
    · have d1 : decide (0 < t) = true := decide_eq_true ht
      go_enter Tryz.func9, Tryz.ntmps9
      go_wp2_with fail
      refine q1.out.mono ?_
      rintro e w1 ⟨rfl, hB⟩
      have HB1 := hid (hB)
      clear hB q1 
      have q2 := hid (cP1.out w1 HB1.out)
      go_wp2_with fail
      refine q2.out.mono ?_
      rintro e w2 ⟨rfl, hB⟩
      have HB2 := hid (HB1.out.trans (hB.mono HB1.out.size))
      clear hB q2 
      go_wp2_with fail
      refine (cB.out _ _ (by omega) (by omega) (fun y g1 g2 => hL.out y (by omega)) _ HB2.out).mono ?_
      rintro e w3 ⟨rfl, hB⟩
      have HB3 := hid (HB2.out.trans (hB.mono HB2.out.size))
      clear hB
      have q4 := hid (cF.out w3 HB3.out)
      go_wp2_with fail
      refine q4.out.mono ?_
      rintro e w4 ⟨rfl, hB⟩
      have HB4 := hid (HB3.out.trans (hB.mono HB3.out.size))
      clear hB q4 
      have q5 := hid (cN2.out w4 HB4.out)
      go_wp2_with fail
      refine q5.out.mono ?_
      rintro e w5 ⟨rfl, hB⟩
      have HB5 := hid (HB4.out.trans (hB.mono HB4.out.size))
      clear hB q5 
      have q6 := hid (cZ.out w5 HB5.out)
      go_wp2_with fail
      refine q6.out.mono ?_
      rintro e w6 ⟨rfl, hB⟩
      have HB6 := hid (HB5.out.trans (hB.mono HB5.out.size))
      clear hB q6 
      have q7 := hid (cP2.out w6 HB6.out)
      go_wp2_with fail
      refine q7.out.mono ?_
      rintro e w7 ⟨rfl, hB⟩
      have HB7 := hid (HB6.out.trans (hB.mono HB6.out.size))
      clear hB q7 
      have q8 := hid (cL.out w7 HB7.out)
      go_wp2_with fail
      refine q8.out.mono ?_
      rintro e w8 ⟨rfl, hB⟩
      have HB8 := hid (HB7.out.trans (hB.mono HB7.out.size))
      clear hB q8 
      go_wp2
      go_ret
      exact ⟨rfl, HB8.out⟩
    · have d1 : decide (0 < t) = false := decide_eq_false ht
      go_enter Tryz.func9, Tryz.ntmps9
      go_wp2_with fail
      refine q1.out.mono ?_
      rintro e w1 ⟨rfl, hB⟩
      have HB1 := hid (hB)
      clear hB q1 
      have q2 := hid (cP1.out w1 HB1.out)
      go_wp2_with fail
      refine q2.out.mono ?_
      rintro e w2 ⟨rfl, hB⟩
      have HB2 := hid (HB1.out.trans (hB.mono HB1.out.size))
      clear hB q2 
      have q3 := hid (cF.out w2 HB2.out)
      go_wp2_with fail
      refine q3.out.mono ?_
      rintro e w3 ⟨rfl, hB⟩
      have HB3 := hid (HB2.out.trans (hB.mono HB2.out.size))
      clear hB q3 
      have q4 := hid (cN2.out w3 HB3.out)
      go_wp2_with fail
      refine q4.out.mono ?_
      rintro e w4 ⟨rfl, hB⟩
      have HB4 := hid (HB3.out.trans (hB.mono HB3.out.size))
      clear hB q4 
      have q5 := hid (cZ.out w4 HB4.out)
      go_wp2_with fail
      refine q5.out.mono ?_
      rintro e w5 ⟨rfl, hB⟩
      have HB5 := hid (HB4.out.trans (hB.mono HB4.out.size))
      clear hB q5 
      have q6 := hid (cP2.out w5 HB5.out)
      go_wp2_with fail
      refine q6.out.mono ?_
      rintro e w6 ⟨rfl, hB⟩
      have HB6 := hid (HB5.out.trans (hB.mono HB5.out.size))
      clear hB q6 
      have q7 := hid (cL.out w6 HB6.out)
      go_wp2_with fail
      refine q7.out.mono ?_
      rintro e w7 ⟨rfl, hB⟩
      have HB7 := hid (HB6.out.trans (hB.mono HB6.out.size))
      clear hB q7 
      go_wp2
      go_ret
      exact ⟨rfl, HB7.out⟩
end Go.Proofs.YtcbanlgnanihhaaGreatDoor

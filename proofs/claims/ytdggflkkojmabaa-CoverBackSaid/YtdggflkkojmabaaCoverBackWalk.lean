/-
  ferialaw03.CoverBack answers true for every list of numbers.
-/
import Derived.Test.YtdggflkkojmabaaCovBackLaw
import Derived.Test.YtdggflkkojmabaaCoverListWalk
import Derived.Deep.DeepCutAuto
import Derived.Deep.CutBlock
namespace Go.Proofs.Ytdggflkkojmabaa
open Go.RowKit
set_option linter.unusedVariables false

theorem calls_bool {P : Program} {f : FuncId} {args : Array Value} {w : World} {p : Prop} {b : Bool} {Q : World → Prop} (h : Calls P f args w fun e w' => BoolIs p e ∧ Q w') (hb : b = true ↔ p) :
    Calls P f args w fun e w' => e = .returned (.bool b) ∧ Q w' :=
  h.mono fun e w' ⟨⟨c, he, hc⟩, hq⟩ => ⟨by rw [he]; cases b <;> cases c <;> simp_all, hq⟩

set_option maxHeartbeats 1600000 in
theorem CoverBack_walk (a : Option Addr) (cap : Nat) (l : List Int) (w : World) (hl : l.length ≤ 9223372036854775807) (hcap : l.length ≤ cap) (hs : Sl w a (ints l)) :
    Calls Try.prog 4 #[.slice a l.length cap] w fun e w' => e = .returned (.bool true) ∧ Below w.heap.size w w' := by
  by_cases h500 : 500 < l.length
  · go_enter Try.func4, Try.ntmps4
    go_wp2_with (go_at_call 5; refine (lives03_any _).mono ?_; rintro e w1 ⟨rfl, hb1⟩)
    go_ret
    exact ⟨rfl, hb1⟩
  · have hmc := RMay_any a cap l w hl hs
    by_cases hm : May l
    · have hmc' := hid (calls_bool (b := true) hmc (by simp [hm]))
      clear hmc
      go_enter Try.func4, Try.ntmps4
      go_wp2_with fail
      refine hmc'.out.mono ?_
      rintro e w1 ⟨rfl, hb1⟩
      have hsz1 := hb1.size
      go_wp2_with fail
      refine (Of_any a cap l _ (by omega) hcap (hs.below hb1)).mono ?_
      rintro e w2 ⟨v2, ps, rfl, hps, hown2, hb2⟩
      have hd : Decomp ps l := by
        rcases hps with ⟨_, h⟩ | ⟨h, _⟩
        · exact h
        · exact absurd hm h
      obtain ⟨hall, hlen, hap, hbd⟩ := decomp_law hm hd
      obtain ⟨a2, c2, rfl, hsl2, _⟩ := owns_form hown2
      have hB2 := hb1.trans (hb2.mono hsz1)
      have hsz2 := hB2.size
      have Hall := hid hall
      have Hap := hid hap
      have Hbd := hid hbd
      have hsl0 := hs.below hB2
      have hpl : ps.length ≤ 500 := by omega
      clear hps hd hown2 hb1 hb2 hall hap hbd hmc' hs
      go_wp2_with fail
      refine (own_ret (CList_any a2 c2 ps _ (by omega) hsl2)).mono ?_
      rintro e w3 ⟨a3, n3, c3, rfl, Hn3, hsl3, hown3, hb3⟩
      rw [Hall.out] at Hn3 hsl3
      have hB3 := hB2.trans (hb3.mono hsz2)
      have hsz3 := hB3.size
      have hsl0' := hsl0.below hb3
      have hsl2' := hsl2.below hb3
      clear hown3 hb3 hsl0 hsl2
      go_wp2_with fail
      refine (Ints_yes _ _ _ _ _ _ l _ Hn3.out rfl hl hsl3 hsl0').mono ?_
      rintro e w4 ⟨rfl, hb4⟩
      have hB4 := hB3.trans (hb4.mono hsz3)
      have hsz4 := hB4.size
      have hsl4 := hsl2'.below hb4
      clear hb4 hsl2' hsl3 hsl0' hB2 hB3
      go_wp2
      go_loopw [4] (fun i wr => ∃ k : Nat, i = .int .i64 k ∧ 1 ≤ k ∧ (k ≤ ps.length ∨ k = 1) ∧ Below w4.heap.size w4 wr) (fun i _ => ps.length - (intOf i).toNat)
      case atStart => exact ⟨1, rfl, by omega, .inr rfl, Below.refl _ _⟩
      case round =>
        obtain ⟨k, rfl, hk1, hk2, hB⟩ := hrel
        have hB5 := hB4.trans (hB.mono hsz4)
        have hsz5 := hB5.size
        by_cases hlt : k < ps.length
        · obtain ⟨m, rfl⟩ : ∃ m, k = m + 1 := ⟨k - 1, by omega⟩
          obtain ⟨b, off, rfl, hb, hc⟩ := hsl4.atTrip hlt
          obtain ⟨p1, p2, p3⟩ := hc (m + 1) hlt
          obtain ⟨q1, q2, q3⟩ := hc m (by omega)
          have hno := Hap.out m hlt
          have hbp := Hbd.out ps[m + 1] (by simp)
          have hbq := Hbd.out (ps[m]'(by omega)) (by simp)
          obtain ⟨⟨pf, pt, pst⟩, hp⟩ : ∃ p, p = ps[m + 1] := ⟨_, rfl⟩
          obtain ⟨⟨qf, qt, qst⟩, hq⟩ : ∃ p, p = ps[m]'(by omega) := ⟨_, rfl⟩
          rw [← hp] at p1 p2 p3 hno hbp
          rw [← hq] at q1 q2 q3 hno hbq
          simp only [] at p1 p2 p3 q1 q2 q3 hno hbp hbq
          have e1 := (hB.cell (p := ⟨b, off + (m + 1) * 3, none⟩) hb).trans p1
          have e2 := (hB.cell (p := ⟨b, off + (m + 1) * 3 + 1, none⟩) hb).trans p2
          have e3 := (hB.cell (p := ⟨b, off + (m + 1) * 3 + 2, none⟩) hb).trans p3
          have g1 := (hB.cell (p := ⟨b, off + m * 3, none⟩) hb).trans q1
          have g2 := (hB.cell (p := ⟨b, off + m * 3 + 1, none⟩) hb).trans q2
          have g3 := (hB.cell (p := ⟨b, off + m * 3 + 2, none⟩) hb).trans q3
          have hw1 : IntKind.i64.wrap (m : Int) = m := IntWalk.i64_in _ (by omega)
          obtain ⟨⟨x1, x2⟩, ⟨x3, x4⟩, x5, x6⟩ := hbp
          obtain ⟨⟨y1, y2⟩, ⟨y3, y4⟩, y5, y6⟩ := hbq
          have Hno := hid hno
          clear hc p1 p2 p3 q1 q2 q3 hno hp hq hsl4
          have hbr : b < wr.heap.size := Nat.lt_of_lt_of_le hb hB.size
          have hbr1 : b < wr.heap.size + 1 := by omega
          go_upto_region 9 with (fail)
          go_cut [5, 6] (fun s5 s6 wx => ∃ g h : Nat, g ≠ h ∧ wr.heap.size ≤ g ∧ wr.heap.size ≤ h ∧ s5 = .pointer (some ⟨g, 0, none⟩) ∧ s6 = .pointer (some ⟨h, 0, none⟩) ∧ wx.cell? ⟨g, 0, none⟩ = some (.int .i64 qf) ∧ wx.cell? ⟨g, 1, none⟩ = some (.int .i64 qt) ∧ wx.cell? ⟨g, 2, none⟩ = some (.int .i64 qst) ∧
            wx.cell? ⟨h, 0, none⟩ = some (.int .i64 pf) ∧ wx.cell? ⟨h, 1, none⟩ = some (.int .i64 pt) ∧ wx.cell? ⟨h, 2, none⟩ = some (.int .i64 pst) ∧ Below wr.heap.size wr wx)
          case first =>
            go_region
            all_goals go_wp2
            all_goals go_meet
            · refine ⟨wr.heap.size, wr.heap.size + 1, by omega, by omega, by omega, rfl, rfl, ?_, ?_, ?_, ?_, ?_, ?_, ?_⟩
              all_goals first | (simp [go_sem]; done) | (repeat (first | exact Below.refl _ _ | refine below_set ?_ (by omega) | refine Below.drew ?_ | refine below_new ?_ (by simp)))
            · refine ⟨wr.heap.size + 1, wr.heap.size, by omega, by omega, by omega, rfl, rfl, ?_, ?_, ?_, ?_, ?_, ?_, ?_⟩
              all_goals first | (simp [go_sem]; done) | (repeat (first | exact Below.refl _ _ | refine below_set ?_ (by omega) | refine Below.drew ?_ | refine below_new ?_ (by simp)))
          case rest =>
            obtain ⟨g, h, hgh, hg, hh, rfl, rfl, c1, c2, c3, d1, d2, d3, hbx⟩ := hcut
            have b2 : (pf - qt == qst) = false := by simpa using Hno.out
            have hB6 := hB.trans (hbx.mono hB.size)
            by_cases hst : qst = pst
            · have b1 : (qst == pst) = true := by simp [hst]
              clear hst
              go_wp2
              exact ⟨⟨m + 1 + 1, by go_num, by omega, .inl (by omega), hB6⟩, by simp [intOf]; omega⟩
            · have b1 : (qst == pst) = false := by simp [hst]
              clear hst
              go_wp2
              exact ⟨⟨m + 1 + 1, by go_num, by omega, .inl (by omega), hB6⟩, by simp [intOf]; omega⟩
        · go_wp2_with (go_at_call 5; refine (lives03_any _).mono ?_; rintro e w5 ⟨rfl, hb5⟩)
          go_ret
          exact ⟨rfl, hB5.trans (hb5.mono hsz5)⟩
    · have hmc' := hid (calls_bool (b := false) hmc (by simp [hm]))
      clear hmc
      go_enter Try.func4, Try.ntmps4
      go_wp2_with fail
      refine hmc'.out.mono ?_
      rintro e w1 ⟨rfl, hb1⟩
      have hsz1 := hb1.size
      go_wp2_with (go_at_call 5; refine (lives03_any _).mono ?_; rintro e w5 ⟨rfl, hb5⟩)
      go_ret
      exact ⟨rfl, hb1.trans (hb5.mono hsz1)⟩
end Go.Proofs.Ytdggflkkojmabaa

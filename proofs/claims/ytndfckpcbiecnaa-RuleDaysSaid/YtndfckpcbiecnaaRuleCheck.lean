/-
  rule.parts, rule.Check.
-/
import Derived.Test.YtndfckpcbiecnaaRuleWeeks
namespace Go.Proofs.Ytndfckpcbiecnaa
open Go.RowKit
set_option linter.unusedVariables false

theorem run_storeFnR (w : World) (a : Addr) (m : Mode) (fn : Fn) (first captured : Array Value) : (store a (.func fn first captured) m).run Try.prog w = stored Try.prog w a (.func fn first captured) m := run_store Try.prog w a _ m rfl
attribute [local go_sem] run_storeFnR
def firstNZ : List Int → Int
  | [] => 0
  | x :: l => if x = 0 then firstNZ l else x
def errsL (r : Ru) : List Int := [headE r, listE 1 12 r.l5, daysE r, weeksE r, listE 0 23 r.l8, listE 0 59 r.l9, listE 0 59 r.lx]
def checkE (r : Ru) : Int := firstNZ (errsL r)
abbrev partL : List Value := [(.func (.func 129) #[] #[]), (.func (.func 130) #[] #[]), (.func (.func 132) #[] #[]), (.func (.func 133) #[] #[]), (.func (.func 134) #[] #[]), (.func (.func 135) #[] #[]), (.func (.func 136) #[] #[])]
theorem Parts_any (w : World) : Calls Try.prog 70 #[] w fun e w' => e = .returned (.slice (some ⟨w.heap.size, 0, none⟩) 7 7) ∧ w' = w.alloc (.cells partL.toArray 113) := by
  go_enter Try.func70, Try.ntmps70
  go_wp2
  go_ret
  exact ⟨rfl, rfl⟩
abbrev PaC (W : World) (b : Nat) : Prop := W.cell? ⟨b, 0, none⟩ = some (.func (.func 129) #[] #[]) ∧ W.cell? ⟨b, 1, none⟩ = some (.func (.func 130) #[] #[]) ∧ W.cell? ⟨b, 2, none⟩ = some (.func (.func 132) #[] #[]) ∧ W.cell? ⟨b, 3, none⟩ = some (.func (.func 133) #[] #[]) ∧ W.cell? ⟨b, 4, none⟩ = some (.func (.func 134) #[] #[]) ∧ W.cell? ⟨b, 5, none⟩ = some (.func (.func 135) #[] #[]) ∧ W.cell? ⟨b, 6, none⟩ = some (.func (.func 136) #[] #[])
structure ChS (w : World) (r : Ru) (b : Nat) (W : World) : Prop where
  rb : RuB W w.heap.size r
  s : RuS W r
  c : PaC W b
  be : Below w.heap.size w W
  l : w.heap.size < W.heap.size ∧ b < W.heap.size
theorem ChS.keep {w W W' : World} {r : Ru} {b : Nat} (h : ChS w r b W) (hb : Below W.heap.size W W') : ChS w r b W' := by
  obtain ⟨c0, c1, c2, c3, c4, c5, c6⟩ := h.c
  have hs := hb.size
  exact ⟨h.rb.below hb h.l.1, h.s.below hb, ⟨(hb.cell (p := ⟨b, 0, none⟩) h.l.2).trans c0, (hb.cell (p := ⟨b, 1, none⟩) h.l.2).trans c1, (hb.cell (p := ⟨b, 2, none⟩) h.l.2).trans c2, (hb.cell (p := ⟨b, 3, none⟩) h.l.2).trans c3, (hb.cell (p := ⟨b, 4, none⟩) h.l.2).trans c4, (hb.cell (p := ⟨b, 5, none⟩) h.l.2).trans c5, (hb.cell (p := ⟨b, 6, none⟩) h.l.2).trans c6⟩, h.be.trans (hb.mono (Nat.le_of_lt h.l.1)), Nat.lt_of_lt_of_le h.l.1 hs, Nat.lt_of_lt_of_le h.l.2 hs⟩
theorem paC_new (w : World) (t : TypeId) : PaC (w.alloc (.cells partL.toArray t)) w.heap.size := by
  refine ⟨?_, ?_, ?_, ?_, ?_, ?_, ?_⟩ <;> simp [go_sem]
set_option maxRecDepth 100000 in
set_option maxHeartbeats 6400000 in
theorem Check_any (r : Ru) (w : World) (hr : RuS w r) (hm : r.Sm 1000000) : Calls Try.prog 20 #[ruv r] w fun e w' => e = .returned (.int .i64 (checkE r)) ∧ Below w.heap.size w w' := by
  have hB0 : Below w.heap.size w (w.alloc (.cells (ruList r).toArray 34)) := below_new (Below.refl _ _) (Nat.le_refl _)
  have hn : Below (w.heap.size + 1) (w.alloc (.cells (ruList r).toArray 34)) ((w.alloc (.cells (ruList r).toArray 34)).alloc (.cells partL.toArray 113)) := below_new (Below.refl _ _) (by simp)
  have hP := paC_new (w.alloc (.cells (ruList r).toArray 34)) 113
  rw [World.size_alloc] at hP
  have HS0 : Hid (ChS w r (w.heap.size + 1) ((w.alloc (.cells (ruList r).toArray 34)).alloc (.cells partL.toArray 113))) :=
    ⟨(ruB_new w r _).below hn (by omega), (hr.below hB0).below (by simpa only [World.size_alloc] using hn), hP, hB0.trans (hn.mono (by omega)), by simp only [World.size_alloc]; omega, by simp only [World.size_alloc]; omega⟩
  have k0 : Hid (∀ W, ChS w r (w.heap.size + 1) W → Calls Try.prog 129 #[ruv r] W fun e w' => e = .returned (.int .i64 (headE r)) ∧ ChS w r (w.heap.size + 1) w') := fun W h => keep_of' (Head_any r W) (fun _ => h.keep)
  have k1 : Hid (∀ W, ChS w r (w.heap.size + 1) W → Calls Try.prog 130 #[ruv r] W fun e w' => e = .returned (.int .i64 (listE 1 12 r.l5)) ∧ ChS w r (w.heap.size + 1) w') := fun W h => keep_of' (Part1_any r W h.s hm) (fun _ => h.keep)
  have k2 : Hid (∀ W, ChS w r (w.heap.size + 1) W → Calls Try.prog 132 #[ruv r] W fun e w' => e = .returned (.int .i64 (daysE r)) ∧ ChS w r (w.heap.size + 1) w') := fun W h => keep_of' (RuDays_any r W h.s hm) (fun _ => h.keep)
  have k3 : Hid (∀ W, ChS w r (w.heap.size + 1) W → Calls Try.prog 133 #[ruv r] W fun e w' => e = .returned (.int .i64 (weeksE r)) ∧ ChS w r (w.heap.size + 1) w') := fun W h => keep_of' (RuWeeks_any r W h.s hm) (fun _ => h.keep)
  have k4 : Hid (∀ W, ChS w r (w.heap.size + 1) W → Calls Try.prog 134 #[ruv r] W fun e w' => e = .returned (.int .i64 (listE 0 23 r.l8)) ∧ ChS w r (w.heap.size + 1) w') := fun W h => keep_of' (Part2_any r W h.s hm) (fun _ => h.keep)
  have k5 : Hid (∀ W, ChS w r (w.heap.size + 1) W → Calls Try.prog 135 #[ruv r] W fun e w' => e = .returned (.int .i64 (listE 0 59 r.l9)) ∧ ChS w r (w.heap.size + 1) w') := fun W h => keep_of' (Part3_any r W h.s hm) (fun _ => h.keep)
  have k6 : Hid (∀ W, ChS w r (w.heap.size + 1) W → Calls Try.prog 136 #[ruv r] W fun e w' => e = .returned (.int .i64 (listE 0 59 r.lx)) ∧ ChS w r (w.heap.size + 1) w') := fun W h => keep_of' (Part4_any r W h.s hm) (fun _ => h.keep)
  have cP := hid (Parts_any (w.alloc (.cells (ruList r).toArray 34)))
  rw [World.size_alloc] at cP
  rw [checkE]
  have hq : errsL r = [headE r, listE 1 12 r.l5, daysE r, weeksE r, listE 0 23 r.l8, listE 0 59 r.l9, listE 0 59 r.lx] := rfl
  rw [hq]
  obtain ⟨E0, h0⟩ : ∃ q, headE r = q := ⟨_, rfl⟩
  obtain ⟨E1, h1⟩ : ∃ q, listE 1 12 r.l5 = q := ⟨_, rfl⟩
  obtain ⟨E2, h2⟩ : ∃ q, daysE r = q := ⟨_, rfl⟩
  obtain ⟨E3, h3⟩ : ∃ q, weeksE r = q := ⟨_, rfl⟩
  obtain ⟨E4, h4⟩ : ∃ q, listE 0 23 r.l8 = q := ⟨_, rfl⟩
  obtain ⟨E5, h5⟩ : ∃ q, listE 0 59 r.l9 = q := ⟨_, rfl⟩
  obtain ⟨E6, h6⟩ : ∃ q, listE 0 59 r.lx = q := ⟨_, rfl⟩
  rw [h0, h1, h2, h3, h4, h5, h6]
  rw [h0] at k0
  rw [h1] at k1
  rw [h2] at k2
  rw [h3] at k3
  rw [h4] at k4
  rw [h5] at k5
  rw [h6] at k6
  clear h0 h1 h2 h3 h4 h5 h6 hr hm hB0 hn hP hq
  go_enter Try.func20, Try.ntmps20
  go_wp2_with fail
  refine cP.out.mono ?_
  rintro e w1 ⟨rfl, rfl⟩
  have HS0 := HS0
  go_wp2_with fail
  go_loopw [8] (fun i wr => ∃ k : Nat, i = .int .i64 k ∧ k ≤ 7 ∧ Hid (firstNZ [E0, E1, E2, E3, E4, E5, E6] = firstNZ ([E0, E1, E2, E3, E4, E5, E6].drop k)) ∧ Hid (ChS w r (w.heap.size + 1) wr)) (fun i _ => 7 - (intOf i).toNat)
  case atStart => exact ⟨0, rfl, by omega, by rfl, HS0⟩
  case round =>
    obtain ⟨k, rfl, hk, hI, hS⟩ := hrel
    have hk8 : k = 0 ∨ k = 1 ∨ k = 2 ∨ k = 3 ∨ k = 4 ∨ k = 5 ∨ k = 6 ∨ k = 7 := by omega
    obtain ⟨p0, p1, p2, p3, p4, p5, p6⟩ := hS.out.c
    rcases hk8 with rfl | rfl | rfl | rfl | rfl | rfl | rfl | rfl
    · have hn := below_new (o := .cells #[(.func (.func 129) #[] #[])] 113) (Below.refl wr.heap.size wr) (Nat.le_refl _)
      have hS1 := hS.out.keep hn
      obtain ⟨⟨q0, q1, q2, q3, q4⟩, q5, q6, q7, q8, q9, qx⟩ := hS1.rb.all
      clear hn
      go_wp2_with fail
      refine (k0.out _ hS1).mono ?_
      rintro e w2 ⟨rfl, hS2⟩
      by_cases hz : E0 = 0
      · have hb : (E0 != 0) = false := by simp [hz]
        have hf : Hid (firstNZ [E0, E1, E2, E3, E4, E5, E6] = firstNZ ([E0, E1, E2, E3, E4, E5, E6].drop 1)) := by
          show _ = _
          rw [hI.out]; simp [firstNZ, hz]
        have HS2 := hid hS2
        clear hz q0 q1 q2 q3 q4 q5 q6 q7 q8 q9 qx p0 p1 p2 p3 p4 p5 p6 hS1 hS2
        go_wp2
        exact ⟨⟨1, by go_num, by omega, hf, HS2⟩, by simp [intOf]⟩
      · have hb : (E0 != 0) = true := by simp [hz]
        have hf : Hid (firstNZ [E0, E1, E2, E3, E4, E5, E6] = E0) := by
          show _ = _
          rw [hI.out]; simp [firstNZ, hz]
        have HS2 := hid hS2
        clear hz q0 q1 q2 q3 q4 q5 q6 q7 q8 q9 qx p0 p1 p2 p3 p4 p5 p6 hS1 hS2
        go_wp2
        go_ret
        exact ⟨by rw [hf.out]; rfl, HS2.out.be⟩
    · have hn := below_new (o := .cells #[(.func (.func 130) #[] #[])] 113) (Below.refl wr.heap.size wr) (Nat.le_refl _)
      have hS1 := hS.out.keep hn
      obtain ⟨⟨q0, q1, q2, q3, q4⟩, q5, q6, q7, q8, q9, qx⟩ := hS1.rb.all
      clear hn
      go_wp2_with fail
      refine (k1.out _ hS1).mono ?_
      rintro e w2 ⟨rfl, hS2⟩
      by_cases hz : E1 = 0
      · have hb : (E1 != 0) = false := by simp [hz]
        have hf : Hid (firstNZ [E0, E1, E2, E3, E4, E5, E6] = firstNZ ([E0, E1, E2, E3, E4, E5, E6].drop 2)) := by
          show _ = _
          rw [hI.out]; simp [firstNZ, hz]
        have HS2 := hid hS2
        clear hz q0 q1 q2 q3 q4 q5 q6 q7 q8 q9 qx p0 p1 p2 p3 p4 p5 p6 hS1 hS2
        go_wp2
        exact ⟨⟨2, by go_num, by omega, hf, HS2⟩, by simp [intOf]⟩
      · have hb : (E1 != 0) = true := by simp [hz]
        have hf : Hid (firstNZ [E0, E1, E2, E3, E4, E5, E6] = E1) := by
          show _ = _
          rw [hI.out]; simp [firstNZ, hz]
        have HS2 := hid hS2
        clear hz q0 q1 q2 q3 q4 q5 q6 q7 q8 q9 qx p0 p1 p2 p3 p4 p5 p6 hS1 hS2
        go_wp2
        go_ret
        exact ⟨by rw [hf.out]; rfl, HS2.out.be⟩
    · have hn := below_new (o := .cells #[(.func (.func 132) #[] #[])] 113) (Below.refl wr.heap.size wr) (Nat.le_refl _)
      have hS1 := hS.out.keep hn
      obtain ⟨⟨q0, q1, q2, q3, q4⟩, q5, q6, q7, q8, q9, qx⟩ := hS1.rb.all
      clear hn
      go_wp2_with fail
      refine (k2.out _ hS1).mono ?_
      rintro e w2 ⟨rfl, hS2⟩
      by_cases hz : E2 = 0
      · have hb : (E2 != 0) = false := by simp [hz]
        have hf : Hid (firstNZ [E0, E1, E2, E3, E4, E5, E6] = firstNZ ([E0, E1, E2, E3, E4, E5, E6].drop 3)) := by
          show _ = _
          rw [hI.out]; simp [firstNZ, hz]
        have HS2 := hid hS2
        clear hz q0 q1 q2 q3 q4 q5 q6 q7 q8 q9 qx p0 p1 p2 p3 p4 p5 p6 hS1 hS2
        go_wp2
        exact ⟨⟨3, by go_num, by omega, hf, HS2⟩, by simp [intOf]⟩
      · have hb : (E2 != 0) = true := by simp [hz]
        have hf : Hid (firstNZ [E0, E1, E2, E3, E4, E5, E6] = E2) := by
          show _ = _
          rw [hI.out]; simp [firstNZ, hz]
        have HS2 := hid hS2
        clear hz q0 q1 q2 q3 q4 q5 q6 q7 q8 q9 qx p0 p1 p2 p3 p4 p5 p6 hS1 hS2
        go_wp2
        go_ret
        exact ⟨by rw [hf.out]; rfl, HS2.out.be⟩
    · have hn := below_new (o := .cells #[(.func (.func 133) #[] #[])] 113) (Below.refl wr.heap.size wr) (Nat.le_refl _)
      have hS1 := hS.out.keep hn
      obtain ⟨⟨q0, q1, q2, q3, q4⟩, q5, q6, q7, q8, q9, qx⟩ := hS1.rb.all
      clear hn
      go_wp2_with fail
      refine (k3.out _ hS1).mono ?_
      rintro e w2 ⟨rfl, hS2⟩
      by_cases hz : E3 = 0
      · have hb : (E3 != 0) = false := by simp [hz]
        have hf : Hid (firstNZ [E0, E1, E2, E3, E4, E5, E6] = firstNZ ([E0, E1, E2, E3, E4, E5, E6].drop 4)) := by
          show _ = _
          rw [hI.out]; simp [firstNZ, hz]
        have HS2 := hid hS2
        clear hz q0 q1 q2 q3 q4 q5 q6 q7 q8 q9 qx p0 p1 p2 p3 p4 p5 p6 hS1 hS2
        go_wp2
        exact ⟨⟨4, by go_num, by omega, hf, HS2⟩, by simp [intOf]⟩
      · have hb : (E3 != 0) = true := by simp [hz]
        have hf : Hid (firstNZ [E0, E1, E2, E3, E4, E5, E6] = E3) := by
          show _ = _
          rw [hI.out]; simp [firstNZ, hz]
        have HS2 := hid hS2
        clear hz q0 q1 q2 q3 q4 q5 q6 q7 q8 q9 qx p0 p1 p2 p3 p4 p5 p6 hS1 hS2
        go_wp2
        go_ret
        exact ⟨by rw [hf.out]; rfl, HS2.out.be⟩
    · have hn := below_new (o := .cells #[(.func (.func 134) #[] #[])] 113) (Below.refl wr.heap.size wr) (Nat.le_refl _)
      have hS1 := hS.out.keep hn
      obtain ⟨⟨q0, q1, q2, q3, q4⟩, q5, q6, q7, q8, q9, qx⟩ := hS1.rb.all
      clear hn
      go_wp2_with fail
      refine (k4.out _ hS1).mono ?_
      rintro e w2 ⟨rfl, hS2⟩
      by_cases hz : E4 = 0
      · have hb : (E4 != 0) = false := by simp [hz]
        have hf : Hid (firstNZ [E0, E1, E2, E3, E4, E5, E6] = firstNZ ([E0, E1, E2, E3, E4, E5, E6].drop 5)) := by
          show _ = _
          rw [hI.out]; simp [firstNZ, hz]
        have HS2 := hid hS2
        clear hz q0 q1 q2 q3 q4 q5 q6 q7 q8 q9 qx p0 p1 p2 p3 p4 p5 p6 hS1 hS2
        go_wp2
        exact ⟨⟨5, by go_num, by omega, hf, HS2⟩, by simp [intOf]⟩
      · have hb : (E4 != 0) = true := by simp [hz]
        have hf : Hid (firstNZ [E0, E1, E2, E3, E4, E5, E6] = E4) := by
          show _ = _
          rw [hI.out]; simp [firstNZ, hz]
        have HS2 := hid hS2
        clear hz q0 q1 q2 q3 q4 q5 q6 q7 q8 q9 qx p0 p1 p2 p3 p4 p5 p6 hS1 hS2
        go_wp2
        go_ret
        exact ⟨by rw [hf.out]; rfl, HS2.out.be⟩
    · have hn := below_new (o := .cells #[(.func (.func 135) #[] #[])] 113) (Below.refl wr.heap.size wr) (Nat.le_refl _)
      have hS1 := hS.out.keep hn
      obtain ⟨⟨q0, q1, q2, q3, q4⟩, q5, q6, q7, q8, q9, qx⟩ := hS1.rb.all
      clear hn
      go_wp2_with fail
      refine (k5.out _ hS1).mono ?_
      rintro e w2 ⟨rfl, hS2⟩
      by_cases hz : E5 = 0
      · have hb : (E5 != 0) = false := by simp [hz]
        have hf : Hid (firstNZ [E0, E1, E2, E3, E4, E5, E6] = firstNZ ([E0, E1, E2, E3, E4, E5, E6].drop 6)) := by
          show _ = _
          rw [hI.out]; simp [firstNZ, hz]
        have HS2 := hid hS2
        clear hz q0 q1 q2 q3 q4 q5 q6 q7 q8 q9 qx p0 p1 p2 p3 p4 p5 p6 hS1 hS2
        go_wp2
        exact ⟨⟨6, by go_num, by omega, hf, HS2⟩, by simp [intOf]⟩
      · have hb : (E5 != 0) = true := by simp [hz]
        have hf : Hid (firstNZ [E0, E1, E2, E3, E4, E5, E6] = E5) := by
          show _ = _
          rw [hI.out]; simp [firstNZ, hz]
        have HS2 := hid hS2
        clear hz q0 q1 q2 q3 q4 q5 q6 q7 q8 q9 qx p0 p1 p2 p3 p4 p5 p6 hS1 hS2
        go_wp2
        go_ret
        exact ⟨by rw [hf.out]; rfl, HS2.out.be⟩
    · have hn := below_new (o := .cells #[(.func (.func 136) #[] #[])] 113) (Below.refl wr.heap.size wr) (Nat.le_refl _)
      have hS1 := hS.out.keep hn
      obtain ⟨⟨q0, q1, q2, q3, q4⟩, q5, q6, q7, q8, q9, qx⟩ := hS1.rb.all
      clear hn
      go_wp2_with fail
      refine (k6.out _ hS1).mono ?_
      rintro e w2 ⟨rfl, hS2⟩
      by_cases hz : E6 = 0
      · have hb : (E6 != 0) = false := by simp [hz]
        have hf : Hid (firstNZ [E0, E1, E2, E3, E4, E5, E6] = firstNZ ([E0, E1, E2, E3, E4, E5, E6].drop 7)) := by
          show _ = _
          rw [hI.out]; simp [firstNZ, hz]
        have HS2 := hid hS2
        clear hz q0 q1 q2 q3 q4 q5 q6 q7 q8 q9 qx p0 p1 p2 p3 p4 p5 p6 hS1 hS2
        go_wp2
        exact ⟨⟨7, by go_num, by omega, hf, HS2⟩, by simp [intOf]⟩
      · have hb : (E6 != 0) = true := by simp [hz]
        have hf : Hid (firstNZ [E0, E1, E2, E3, E4, E5, E6] = E6) := by
          show _ = _
          rw [hI.out]; simp [firstNZ, hz]
        have HS2 := hid hS2
        clear hz q0 q1 q2 q3 q4 q5 q6 q7 q8 q9 qx p0 p1 p2 p3 p4 p5 p6 hS1 hS2
        go_wp2
        go_ret
        exact ⟨by rw [hf.out]; rfl, HS2.out.be⟩
    · have hf : Hid (firstNZ [E0, E1, E2, E3, E4, E5, E6] = 0) := hI.out
      clear p0 p1 p2 p3 p4 p5 p6
      go_wp2
      go_ret
      exact ⟨by rw [hf.out]; rfl, hS.out.be⟩
end Go.Proofs.Ytndfckpcbiecnaa

/-
  ferialaw17.May: the document's answer for sets.
-/
import Derived.Test.YtchceegpbfecaaaGreatDoorQ1c81a9
import Derived.Test.YtchceegpbfecaaaGreatDoorQ436a8a
namespace Go.Proofs.YtchceegpbfecaaaGreatDoor
open Go.RowKit
set_option linter.unusedVariables false

attribute [local go_sem ↓] loadAt_cl
set_option maxRecDepth 100000 in
set_option maxHeartbeats 3200000 in
theorem RMay17_any (a : Option Addr) (cap : Nat) (l : List Cl) (w : World) (hl : l.length ≤ 1000) (hs : Sl w a (cls l)) (hok : ∀ c ∈ l, c.Ok) :
    Calls Tryz.prog 18 #[.slice a l.length cap] w fun e w' => e = .returned (.bool (mayL l)) ∧ Below w.heap.size w w' := by
  have Hs := hid hs
  have Hok := hid hok
  clear hs hok
  go_enter Tryz.func18, Tryz.ntmps18
  go_wp2_with fail
  go_loopw [3] (fun i wr => ∃ k : Nat, i = .int .i64 k ∧ k ≤ l.length ∧ k ≤ 9 ∧ Hid ((l.take k).all mayC = true) ∧ Hid (Below w.heap.size w wr)) (fun i _ => l.length - (intOf i).toNat)
  case atStart => exact ⟨0, rfl, by omega, by omega, by show _ = _; rfl, Below.refl _ _⟩
  case round =>
    obtain ⟨k, rfl, hk, hk9, hall, HB⟩ := hrel
    by_cases hlt : k < l.length
    · by_cases h9 : k < 9
      · have hltI : (k : Int) < l.length := by omega
        have h9I : (k : Int) < 9 := by omega
        obtain ⟨b, off, rfl, hbk, hr⟩ := Hs.out.atCl hlt
        have hr' := range_below hr HB.out hbk
        have hcOk := hid (Hok.out _ (List.getElem_mem hlt))
        have ts := hid (take_snoc l k hlt)
        have hmem := hid (List.getElem_mem hlt)
        obtain ⟨c, hc⟩ : ∃ c, l[k] = c := ⟨_, rfl⟩
        rw [hc] at hr' hcOk ts hmem
        have le := ld_at hr'
        have cM := hid (fun W => RMayCl_any c W hcOk.out)
        cases hm : mayC c
        · rw [hm] at cM
          have hno : Hid (mayL l = false) := by
            show _ = _
            rw [mayL, show l.all mayC = false by rw [List.all_eq_false]; exact ⟨c, hmem.out, by rw [hm]; simp⟩, Bool.and_false]
          clear hr hr' hc hm
          go_wp2_with fail
          refine (cM.out _).mono ?_
          rintro e w1 ⟨rfl, hB1⟩
          have HB1 := hid (HB.out.trans (hB1.mono HB.out.size))
          clear hB1 le
          go_wp2
          go_ret
          rw [hno.out]
          exact ⟨rfl, HB1.out⟩
        · rw [hm] at cM
          have hyes : Hid ((l.take (k + 1)).all mayC = true) := by show _ = _; rw [ts.out, List.all_append, hall.out, List.all_cons, hm]; rfl
          clear hr hr' hc hm
          go_wp2_with fail
          refine (cM.out _).mono ?_
          rintro e w1 ⟨rfl, hB1⟩
          have HB1 := hid (HB.out.trans (hB1.mono HB.out.size))
          clear hB1 le
          go_wp2
          exact ⟨⟨k + 1, by go_num, by omega, by omega, hyes, HB1⟩, by simp [intOf]; omega⟩
      · have hltI : (k : Int) < l.length := by omega
        have h9I : ¬ (k : Int) < 9 := by omega
        have hno : Hid (mayL l = false) := by show _ = _; rw [mayL, decide_eq_false (by omega)]; rfl
        have h8J : decide ((l.length : Int) ≤ 8) = false := decide_eq_false (by omega)
        have h8I : ¬ (l.length : Int) ≤ 8 := by omega
        go_wp2
        go_ret
        rw [hno.out]
        exact ⟨rfl, HB.out⟩
    · have hltI : ¬ (k : Int) < l.length := by omega
      have hke : l.take k = l := List.take_of_length_le (by omega)
      rw [hke] at hall
      clear hke
      by_cases h8 : l.length ≤ 8
      · have hno : Hid (mayL l = true) := by show _ = _; rw [mayL, decide_eq_true h8, hall.out]; rfl
        have h8I : (l.length : Int) ≤ 8 := by omega
        clear hall
        go_wp2
        go_ret
        rw [hno.out]
        exact ⟨rfl, HB.out⟩
      · have hno : Hid (mayL l = false) := by show _ = _; rw [mayL, decide_eq_false h8]; rfl
        have h8I : ¬ (l.length : Int) ≤ 8 := by omega
        clear hall
        go_wp2
        go_ret
        rw [hno.out]
        exact ⟨rfl, HB.out⟩
end Go.Proofs.YtchceegpbfecaaaGreatDoor

/-
  feriaref32.signs.
-/
import Derived.Test.YtndfckpcbiecnaaRuleRef
namespace Go.Proofs.Ytndfckpcbiecnaa
open Go.RowKit
set_option linter.unusedVariables false

theorem sgP_self (x : Int) : sgP x x = false := by rw [sgP]; simp
theorem sg_head (l : List Int) : l.any (sgP (l.headD 0)) = mixB l := by
  rw [← sg_mix]
  cases l with
  | nil => rfl
  | cons x l => rw [List.any_cons, List.headD_cons, sgP_self, Bool.false_or]; rfl
set_option maxHeartbeats 1600000 in
theorem Signs_any (a : Option Addr) (cap : Nat) (l : List Int) (w : World) (hl : l.length ≤ 1000000000000) (hs : Sl w a (ints l)) :
    Calls Try.prog 138 #[.slice a l.length cap] w fun e w' => e = .returned (.bool (mixB l)) ∧ Below w.heap.size w w' := by
  have Hs := hid hs
  have hlI : (l.length : Int) ≤ 1000000000000 := by omega
  have Hm := hid (sg_head l)
  clear hs hl
  go_enter Try.func138, Try.ntmps138
  go_wp2
  go_loopw [3] (fun i wr => ∃ k : Nat, i = .int .i64 k ∧ 1 ≤ k ∧ k ≤ l.length + 1 ∧ Hid (∀ x ∈ l.take k, sgP (l.headD 0) x = false) ∧ Hid (Below w.heap.size w wr)) (fun i _ => l.length + 1 - (intOf i).toNat)
  case atStart =>
    refine ⟨1, rfl, by omega, by omega, ?_, Below.refl _ _⟩
    show ∀ x ∈ l.take 1, _
    cases l with
    | nil => simp
    | cons y l => intro x hx; simp at hx; subst hx; exact sgP_self _
  case round =>
    obtain ⟨k, rfl, hk1, hk, hI, hB⟩ := hrel
    by_cases hlt : k < l.length
    · have h0 : 0 < l.length := by omega
      obtain ⟨b, off, rfl, hb, hc⟩ := Hs.out.atInt hlt
      have e1 := (hB.out.cell (p := ⟨b, off + k, none⟩) hb).trans (hc k hlt)
      have e0 := (hB.out.cell (p := ⟨b, off, none⟩) hb).trans (hc 0 h0)
      have ht := hid (take_snoc l k hlt)
      have hm := hid (List.getElem_mem hlt)
      have hh : l.headD 0 = l[0] := by cases l with
        | nil => simp at h0
        | cons y l => rfl
      obtain ⟨y, hy⟩ : ∃ y, l[k] = y := ⟨_, rfl⟩
      obtain ⟨x, hx⟩ : ∃ x, l[0] = x := ⟨_, rfl⟩
      rw [hy] at e1 ht hm
      rw [hx] at e0 hh
      rw [hh] at hI Hm
      have Hh := hid hh
      clear hc hy hx hh
      have hlI0 : (0 : Int) < l.length := by omega
      obtain ⟨p1, h1⟩ : ∃ q, decide (y < 0) = q := ⟨_, rfl⟩
      obtain ⟨p2, h2⟩ : ∃ q, decide (x < 0) = q := ⟨_, rfl⟩
      obtain ⟨p3, h3⟩ : ∃ q, (y == 0) = q := ⟨_, rfl⟩
      obtain ⟨p4, h4⟩ : ∃ q, (x == 0) = q := ⟨_, rfl⟩
      have hsg : Hid (sgP x y = ((p1 != p2) || (p3 != p4))) := by show _ = _; rw [sgP, h1, h2, h3, h4]
      cases p1
      · cases p2
        · cases p3
          · cases p4
            · have hf : Hid (∀ z ∈ l.take (k + 1), sgP (l.headD 0) z = false) := by
                rw [Hh.out]
                exact mem_snoc ht.out hI.out (by rw [hsg.out]; rfl)
              go_wp2
              go_quiet (fail)
              go_wp2
              exact ⟨⟨k + 1, by go_num, by omega, by omega, hf, below_drewN hB.out _⟩, by simp [intOf]; omega⟩
            · have hf : Hid (mixB l = true) := by
                show _ = _
                rw [← Hm.out, List.any_eq_true]
                exact ⟨y, hm.out, by rw [hsg.out]; rfl⟩
              go_wp2
              go_quiet (fail)
              go_wp2
              go_ret
              exact ⟨by rw [hf.out]; rfl, below_drewN hB.out _⟩
          · cases p4
            · have hf : Hid (mixB l = true) := by
                show _ = _
                rw [← Hm.out, List.any_eq_true]
                exact ⟨y, hm.out, by rw [hsg.out]; rfl⟩
              go_wp2
              go_quiet (fail)
              go_wp2
              go_ret
              exact ⟨by rw [hf.out]; rfl, below_drewN hB.out _⟩
            · have hf : Hid (∀ z ∈ l.take (k + 1), sgP (l.headD 0) z = false) := by
                rw [Hh.out]
                exact mem_snoc ht.out hI.out (by rw [hsg.out]; rfl)
              go_wp2
              go_quiet (fail)
              go_wp2
              exact ⟨⟨k + 1, by go_num, by omega, by omega, hf, below_drewN hB.out _⟩, by simp [intOf]; omega⟩
        · have hf : Hid (mixB l = true) := by
            show _ = _
            rw [← Hm.out, List.any_eq_true]
            exact ⟨y, hm.out, by rw [hsg.out]; rfl⟩
          go_wp2
          go_quiet (fail)
          go_wp2
          go_ret
          exact ⟨by rw [hf.out]; rfl, below_drewN hB.out _⟩
      · cases p2
        · have hf : Hid (mixB l = true) := by
            show _ = _
            rw [← Hm.out, List.any_eq_true]
            exact ⟨y, hm.out, by rw [hsg.out]; rfl⟩
          go_wp2
          go_quiet (fail)
          go_wp2
          go_ret
          exact ⟨by rw [hf.out]; rfl, below_drewN hB.out _⟩
        · cases p3
          · cases p4
            · have hf : Hid (∀ z ∈ l.take (k + 1), sgP (l.headD 0) z = false) := by
                rw [Hh.out]
                exact mem_snoc ht.out hI.out (by rw [hsg.out]; rfl)
              go_wp2
              go_quiet (fail)
              go_wp2
              exact ⟨⟨k + 1, by go_num, by omega, by omega, hf, below_drewN hB.out _⟩, by simp [intOf]; omega⟩
            · have hf : Hid (mixB l = true) := by
                show _ = _
                rw [← Hm.out, List.any_eq_true]
                exact ⟨y, hm.out, by rw [hsg.out]; rfl⟩
              go_wp2
              go_quiet (fail)
              go_wp2
              go_ret
              exact ⟨by rw [hf.out]; rfl, below_drewN hB.out _⟩
          · cases p4
            · have hf : Hid (mixB l = true) := by
                show _ = _
                rw [← Hm.out, List.any_eq_true]
                exact ⟨y, hm.out, by rw [hsg.out]; rfl⟩
              go_wp2
              go_quiet (fail)
              go_wp2
              go_ret
              exact ⟨by rw [hf.out]; rfl, below_drewN hB.out _⟩
            · have hf : Hid (∀ z ∈ l.take (k + 1), sgP (l.headD 0) z = false) := by
                rw [Hh.out]
                exact mem_snoc ht.out hI.out (by rw [hsg.out]; rfl)
              go_wp2
              go_quiet (fail)
              go_wp2
              exact ⟨⟨k + 1, by go_num, by omega, by omega, hf, below_drewN hB.out _⟩, by simp [intOf]; omega⟩
    · have hke : l.take k = l := List.take_of_length_le (by omega)
      rw [hke] at hI
      have hr : Hid (mixB l = false) := by
        show _ = _
        rw [← Hm.out, ← Bool.not_eq_true, List.any_eq_true]
        rintro ⟨x, hx, h⟩
        rw [hI.out x hx] at h
        cases h
      clear hke
      go_wp2
      go_ret
      exact ⟨by rw [hr.out]; rfl, hB.out⟩
end Go.Proofs.Ytndfckpcbiecnaa

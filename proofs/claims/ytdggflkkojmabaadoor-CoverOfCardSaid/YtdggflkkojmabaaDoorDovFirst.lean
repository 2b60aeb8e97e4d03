/-
  What cover.first answers: the piece with which numbers begin, and how many it has.
-/
import Derived.Test.YtdggflkkojmabaaDoorDovMay
import Derived.Outline
import Derived.Deep.DeepCutAuto
import Derived.Deep.CutBlock
namespace Go.Proofs.YtdggflkkojmabaaDoor.Cov
open Go.RowKit
set_option linter.unusedVariables false

def stepOf (l : List Int) : Int := match l with | a :: b :: _ => b - a | _ => 1

theorem stepOf_eq (l : List Int) (h : 1 < l.length) : stepOf l = l[1] - l[0] := by
  match l, h with
  | p :: q :: r, _ => rfl

/-- p, n: the piece with which l begins -/
def FirstIs (l : List Int) (p : Int × Int × Int) (n : Nat) : Prop :=
  ∃ m : Nat, ∃ hm : 1 ≤ m, ∃ hl : m ≤ l.length, (∀ j, (hj : j + 1 < m) → l[j + 1]'(by omega) - l[j]'(by omega) = stepOf l) ∧ (∀ (h : m < l.length), l[m] - l[m - 1]'(by omega) ≠ stepOf l) ∧
    ((m = 1 ∨ (m = 2 ∧ 1 < stepOf l)) ∧ p = (l[0]'(by omega), l[0]'(by omega), 1) ∧ n = 1 ∨ ¬ (m = 1 ∨ (m = 2 ∧ 1 < stepOf l)) ∧ p = (l[0]'(by omega), l[m - 1]'(by omega), stepOf l) ∧ n = m)

set_option maxHeartbeats 800000 in
theorem first_any (a : Option Addr) (cap : Nat) (l : List Int) (w : World) (hl : l.length ≤ 9223372036854775807) (h0 : 0 < l.length) (hbd : ∀ x ∈ l, 0 ≤ x ∧ x ≤ 9999) (hs : Sl w a (ints l)) :
    Calls Tryd.prog 88 #[.slice a l.length cap] w fun e w' => ∃ p n, e = .returned (.tuple #[.agg #[.int .i64 p.1, .int .i64 p.2.1, .int .i64 p.2.2], .int .i64 (n : Nat)]) ∧ FirstIs l p n ∧ Below w.heap.size w w' := by
  obtain ⟨b, off, rfl, hb, hc⟩ := hs.atInt h0
  have c0 := hc 0 h0
  rw [Nat.add_zero] at c0
  by_cases h1 : 1 < l.length
  · have c1 := hc 1 h1
    obtain ⟨x, hx⟩ : ∃ x, l[0] = x := ⟨_, rfl⟩
    obtain ⟨y, hy⟩ : ∃ x, l[1] = x := ⟨_, rfl⟩
    have hxb := hbd x (by rw [← hx]; simp)
    have hyb := hbd y (by rw [← hy]; simp)
    obtain ⟨hx1, hx2⟩ := hxb
    obtain ⟨hy1, hy2⟩ := hyb
    rw [hx] at c0
    rw [hy] at c1
    have Hx := hid hx
    have Hy := hid hy
    have Hc := hid hc
    have Hbd := hid hbd
    clear hx hy hc hbd hs
    go_enter Tryd.func88, Tryd.ntmps88
    go_wp2
    go_step3
    go_wp2
    go_quiet (fail)
    go_wp2
    go_step3
    go_upto_block 0 with (fail)
    obtain ⟨st, hst⟩ : ∃ st, y - x = st := ⟨_, rfl⟩
    have hstb : -9999 ≤ st ∧ st ≤ 9999 := by omega
    obtain ⟨hst1, hst2⟩ := hstb
    rw [hst]
    have hstep : stepOf l = st := by rw [stepOf_eq l h1, Hx.out, Hy.out, hst]
    have Hstep := hid hstep
    clear hst hstep
    go_cut [4, 6] (fun m i wr => ∃ k : Nat, ∃ hk1 : 1 ≤ k, ∃ hkl : k ≤ l.length, m = .int .i64 k ∧ i = .int .i64 k ∧ (∀ j, (hj : j + 1 < k) → l[j + 1]'(by omega) - l[j]'(by omega) = stepOf l) ∧ (∀ (h : k < l.length), l[k] - l[k - 1]'(by omega) ≠ stepOf l) ∧
      ∃ q, wr = (w.alloc (.cells #[.int .i64 0, .int .i64 0, .int .i64 0] 111)).drewN q)
    case first =>
      go_wp2
      go_loopw [4, 6] (fun m i wr => ∃ k : Nat, ∃ hk1 : 1 ≤ k, ∃ hkl : k ≤ l.length, m = .int .i64 k ∧ i = .int .i64 k ∧ (∀ j, (hj : j + 1 < k) → l[j + 1]'(by omega) - l[j]'(by omega) = stepOf l) ∧ ∃ q, wr = (w.alloc (.cells #[.int .i64 0, .int .i64 0, .int .i64 0] 111)).drewN q) (fun _ i _ => l.length - (intOf i).toNat)
      case atStart => exact ⟨1, by omega, by omega, rfl, rfl, fun j hj => by omega, _, rfl⟩
      case round =>
        obtain ⟨k, hk1, hkl, rfl, rfl, hrun, q, rfl⟩ := hrel
        have Hrun := hid hrun
        clear hrun
        by_cases hlt : k < l.length
        · obtain ⟨m, rfl⟩ : ∃ m, k = m + 1 := ⟨k - 1, by omega⟩
          have e1 := Hc.out (m + 1) hlt
          have e2 := Hc.out m (by omega)
          obtain ⟨u, hu⟩ : ∃ u, l[m + 1] = u := ⟨_, rfl⟩
          obtain ⟨v, hv⟩ : ∃ v, l[m] = v := ⟨_, rfl⟩
          have hub := Hbd.out u (by rw [← hu]; simp)
          have hvb := Hbd.out v (by rw [← hv]; simp)
          obtain ⟨hu1, hu2⟩ := hub
          obtain ⟨hv1, hv2⟩ := hvb
          rw [hu] at e1
          rw [hv] at e2
          have Hu := hid hu
          have Hv := hid hv
          have hw1 : IntKind.i64.wrap (m : Int) = m := IntWalk.i64_in _ (by omega)
          clear hu hv
          have hw2 : IntKind.i64.wrap (u - v) = u - v := IntWalk.i64_in _ (by omega)
          by_cases hq : u - v = st
          · have hb : (u - v != st) = false := by simp [hq]
            have Hq := hid hq
            clear hq
            go_wp2
            go_quiet (fail)
            go_wp2
            refine ⟨⟨m + 1 + 1, by omega, by omega, by go_num, by go_num, ?_, _, rfl⟩, by simp [intOf]; omega⟩
            intro j hj
            by_cases hjm : j = m
            · subst hjm; rw [Hu.out, Hv.out, Hq.out, Hstep.out]
            · exact Hrun.out j (by omega)
          · have hb : (u - v != st) = true := by simp [hq]
            have Hq := hid hq
            clear hq
            go_wp2
            go_quiet (fail)
            go_wp2
            go_meet
            refine ⟨m + 1, by omega, by omega, by go_num, by go_num, Hrun.out, fun h => ?_, q + nq, by simp⟩
            simp only [Nat.add_sub_cancel]
            rw [Hu.out, Hv.out, Hstep.out]
            exact Hq.out
        · go_wp2
          go_meet
          exact ⟨k, by omega, by omega, rfl, rfl, Hrun.out, fun h => absurd h hlt, _, rfl⟩
    case rest =>
      obtain ⟨k, hk1, hkl, rfl, rfl, hrun, hend, q, rfl⟩ := hcut
      have Hrun := hid hrun
      have Hend := hid hend
      clear hrun hend
      have done1 : (k = 1 ∨ k = 2 ∧ 1 < st) → FirstIs l (x, x, 1) 1 := fun h => ⟨k, hk1, hkl, Hrun.out, Hend.out, .inl ⟨by rw [Hstep.out]; exact h, by rw [Hx.out], rfl⟩⟩
      have done2 : ¬ (k = 1 ∨ k = 2 ∧ 1 < st) → FirstIs l (x, l[k - 1]'(by omega), st) k := fun h => ⟨k, hk1, hkl, Hrun.out, Hend.out, .inr ⟨by rw [Hstep.out]; exact h, by rw [Hx.out, Hstep.out], rfl⟩⟩
      have D1 := hid done1
      have D2 := hid done2
      clear done1 done2
      by_cases hk : k = 1
      · subst hk
        have hd := hid (D1.out (.inl rfl))
        clear D1 D2
        go_wp2
        go_region
        go_wp2
        rw [Exit.noGoto_ret]
        refine bodyPost_ret (v := .tuple #[.agg #[.int .i64 x, .int .i64 x, .int .i64 1], .int .i64 1]) (by simp [results, Tryd.results88, go_sem]) rfl ⟨(x, x, 1), 1, rfl, hd.out, ?_⟩
        exact below_set (below_set (below_set (below_drewN (below_new (Below.refl _ _) (Nat.le_refl _)) _) (Nat.le_refl _)) (Nat.le_refl _)) (Nat.le_refl _)
      obtain ⟨m, rfl⟩ : ∃ m, k = m + 1 := ⟨k - 1, by omega⟩
      have hm1 : 1 ≤ m := by omega
      have b1 : ((m : Int) + 1 == 1) = false := by simp; omega
      have hlm : l[m + 1 - 1]'(by omega) = l[m]'(by omega) := rfl
      rw [hlm] at D2
      clear hlm
      by_cases hk2 : m = 1
      · subst hk2
        by_cases hst0 : 1 < st
        · have hd := hid (D1.out (.inr ⟨rfl, hst0⟩))
          clear D1 D2 hk b1
          go_wp2
          go_region
          go_wp2
          rw [Exit.noGoto_ret]
          refine bodyPost_ret (v := .tuple #[.agg #[.int .i64 x, .int .i64 x, .int .i64 1], .int .i64 1]) (by simp [results, Tryd.results88, go_sem]) rfl ⟨(x, x, 1), 1, rfl, hd.out, ?_⟩
          exact below_set (below_set (below_set (below_drewN (below_new (Below.refl _ _) (Nat.le_refl _)) _) (Nat.le_refl _)) (Nat.le_refl _)) (Nat.le_refl _)
        · have hd := hid (D2.out (by omega))
          have hy2 : l[1] = y := Hy.out
          rw [hy2] at hd
          clear D1 D2 hk b1 hy2
          go_wp2
          go_region
          go_wp2
          rw [Exit.noGoto_ret]
          refine bodyPost_ret (v := .tuple #[.agg #[.int .i64 x, .int .i64 y, .int .i64 st], .int .i64 2]) (by simp [results, Tryd.results88, go_sem]) rfl ⟨(x, y, st), 2, rfl, hd.out, ?_⟩
          exact below_set (below_set (below_set (below_drewN (below_new (Below.refl _ _) (Nat.le_refl _)) _) (Nat.le_refl _)) (Nat.le_refl _)) (Nat.le_refl _)
      · have hd := hid (D2.out (by omega))
        have em := Hc.out m (by omega)
        obtain ⟨v, hv⟩ : ∃ v, l[m]'(by omega) = v := ⟨_, rfl⟩
        rw [hv] at hd em
        have b2 : ((m : Int) + 1 == 2) = false := by simp; omega
        have hw1 : IntKind.i64.wrap (m : Int) = m := IntWalk.i64_in _ (by omega)
        clear D1 D2 hk hk2 hv
        go_wp2
        go_region
        go_wp2
        rw [Exit.noGoto_ret]
        refine bodyPost_ret (v := .tuple #[.agg #[.int .i64 x, .int .i64 v, .int .i64 st], .int .i64 ((m + 1 : Nat) : Int)]) (by simp [results, Tryd.results88, go_sem]) rfl ⟨(x, v, st), m + 1, rfl, hd.out, ?_⟩
        exact below_set (below_set (below_set (below_drewN (below_new (Below.refl _ _) (Nat.le_refl _)) _) (Nat.le_refl _)) (Nat.le_refl _)) (Nat.le_refl _)
  · have hl1 : l.length = 1 := by omega
    obtain ⟨x, hx⟩ : ∃ x, l[0] = x := ⟨_, rfl⟩
    rw [hx] at c0
    have hd : FirstIs l (x, x, 1) 1 := ⟨1, by omega, by omega, fun j hj => by omega, fun h => absurd h h1, .inl ⟨.inl rfl, by rw [hx], rfl⟩⟩
    have Hd := hid hd
    have HL := hid hl1
    have hb0 : decide (1 < (l.length : Int)) = false := by simp; omega
    have hb1 : ((1 : Int) < (l.length : Int)) ↔ False := by simp; omega
    clear hx hc hbd hs hd hl1
    rw [HL.out] at *
    go_enter Tryd.func88, Tryd.ntmps88
    go_wp2
    go_step3
    go_wp2
    go_step3
    go_wp2
    go_loopw [4, 6] (fun m i wr => m = .int .i64 1 ∧ i = .int .i64 1 ∧ ∃ q, wr = (w.alloc (.cells #[.int .i64 0, .int .i64 0, .int .i64 0] 111)).drewN q) (fun _ i _ => 0)
    case atStart => exact ⟨rfl, rfl, 0, rfl⟩
    case round =>
      obtain ⟨rfl, rfl, q, rfl⟩ := hrel
      go_wp2
      go_region
      go_wp2
      rw [Exit.noGoto_ret]
      refine bodyPost_ret (v := .tuple #[.agg #[.int .i64 x, .int .i64 x, .int .i64 1], .int .i64 1]) (by simp [results, Tryd.results88, go_sem]) rfl ⟨(x, x, 1), 1, rfl, Hd.out, ?_⟩
      exact below_set (below_set (below_set (below_drewN (below_new (Below.refl _ _) (Nat.le_refl _)) _) (Nat.le_refl _)) (Nat.le_refl _)) (Nat.le_refl _)
end Go.Proofs.YtdggflkkojmabaaDoor.Cov

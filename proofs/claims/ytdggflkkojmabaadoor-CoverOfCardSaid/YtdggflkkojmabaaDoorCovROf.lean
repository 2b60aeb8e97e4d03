/-
  What feriaref03.Of computes: the pieces of numbers.
-/
import Derived.Test.YtdggflkkojmabaaDoorDovLives
import Derived.Test.YtdggflkkojmabaaDoorSecsAll
import Derived.Shelf.Abstract
namespace Go.Proofs.YtdggflkkojmabaaDoor.Cov
open Go.RowKit
set_option linter.unusedVariables false

theorem eRPiece : El Tryd.prog 61 112 (.agg #[.int .i64 0, .int .i64 0, .int .i64 0]) 3 24 := ⟨Tryd.underlying61, by kernel_rfl, by kernel_rfl, by decide⟩

theorem drop_at (l : List Int) (k j : Nat) (h : j < (l.drop k).length) : (l.drop k)[j] = l[k + j]'(by simp at h; omega) := by simp
theorem step_at (l : List Int) (k : Nat) (h : k + 1 < l.length) : stepOf (l.drop k) = l[k + 1] - l[k] := by
  rw [stepOf_eq _ (by simp; omega), drop_at, drop_at]; rfl
/-- the piece that begins at k and runs up to t -/
theorem first_at (l : List Int) (k t : Nat) (hk : k ≤ t) (ht : t < l.length) (hrun : ∀ j (h1 : k ≤ j) (h2 : j < t), l[j + 1]'(by omega) - l[j]'(by omega) = stepOf (l.drop k)) (hend : ∀ h : t + 1 < l.length, l[t + 1] - l[t] ≠ stepOf (l.drop k)) :
    ((t = k ∨ (t = k + 1 ∧ 1 < stepOf (l.drop k))) → FirstIs (l.drop k) (l[k]'(by omega), l[k]'(by omega), 1) 1) ∧
    (¬ (t = k ∨ (t = k + 1 ∧ 1 < stepOf (l.drop k))) → FirstIs (l.drop k) (l[k]'(by omega), l[t], stepOf (l.drop k)) (t - k + 1)) := by
  have a1 : ∀ j, (hj : j + 1 < t - k + 1) → (l.drop k)[j + 1]'(by simp; omega) - (l.drop k)[j]'(by simp; omega) = stepOf (l.drop k) := fun j hj => by
    rw [drop_at, drop_at]; exact hrun (k + j) (by omega) (by omega)
  have a2 : ∀ (h : t - k + 1 < (l.drop k).length), (l.drop k)[t - k + 1] - (l.drop k)[t - k + 1 - 1]'(by omega) ≠ stepOf (l.drop k) := fun h => by
    have hh : t + 1 < l.length := by simp at h; omega
    have := hend hh
    rw [drop_at, drop_at]
    have e1 : k + (t - k + 1) = t + 1 := by omega
    have e2 : k + (t - k + 1 - 1) = t := by omega
    simp only [e1, e2]
    exact this
  have d0 : (l.drop k)[0]'(by simp; omega) = l[k]'(by omega) := by rw [drop_at]; rfl
  have dt : (l.drop k)[t - k + 1 - 1]'(by simp; omega) = l[t] := by
    rw [drop_at]
    have e2 : k + (t - k + 1 - 1) = t := by omega
    simp only [e2]
  refine ⟨fun h => ⟨t - k + 1, by omega, by simp; omega, a1, a2, .inl ⟨?_, by rw [d0], rfl⟩⟩, fun h => ⟨t - k + 1, by omega, by simp; omega, a1, a2, .inr ⟨?_, by rw [d0, dt], rfl⟩⟩⟩
  · rcases h with h | ⟨h, h2⟩
    · exact .inl (by omega)
    · exact .inr ⟨by omega, h2⟩
  · rintro (h3 | ⟨h3, h4⟩)
    · exact h (.inl (by omega))
    · exact h (.inr ⟨by omega, h4⟩)

set_option maxRecDepth 100000 in
set_option maxHeartbeats 3200000 in
theorem ROf_any (a : Option Addr) (cap : Nat) (l : List Int) (w : World) (hl : l.length ≤ 1000000000) (hs : Sl w a (ints l)) :
    Calls Tryd.prog 48 #[.slice a l.length cap] w fun e w' => ∃ v ps, e = .returned v ∧ OfIs l ps ∧ w'.ownsRow w.heap.size 112 3 v ps.length (trips ps) ∧ Below w.heap.size w w' := by
  have hmc := RMay_any a cap l w (by omega) hs
  by_cases hmay : May l
  · have hbd := hid hmay.1
    have hM := hid hmay
    clear hmay
    have hmc' : Calls Tryd.prog 89 #[.slice a l.length cap] w fun e w' => e = .returned (.bool true) ∧ Below w.heap.size w w' := hmc.mono fun e w' ⟨⟨b, he, hb⟩, h2⟩ => ⟨by rw [he, hb.2 hM.out], h2⟩
    have Hmc := hid hmc'
    have Hs := hid hs
    have hl63 : (l.length : Int) ≤ 1000000000 := by omega
    clear hmc hmc' hs hl
    go_enter Tryd.func48, Tryd.ntmps48
    go_wp2_with (go_at_call 89; refine Hmc.out.mono ?_; rintro e w1 ⟨rfl, hb1⟩)
    go_loopw [3, 4] (fun v n wr => ∃ (k c2 n2 : Nat) (a2 : Option Addr) (ps : List (Int × Int × Int)), n = .int .i64 k ∧ v = .slice a2 n2 c2 ∧ k ≤ l.length ∧ Hid (n2 = ps.length) ∧ n2 ≤ k ∧
        Hid (wr.ownsRow w.heap.size 112 3 (.slice a2 n2 c2) n2 (trips ps)) ∧ Below w.heap.size w wr ∧ Hid (∀ qs, Decomp qs (l.drop k) → Decomp (ps ++ qs) l)) (fun _ n _ => l.length - (intOf n).toNat)
    case atStart => exact ⟨0, 0, 0, none, [], rfl, rfl, by omega, rfl, by omega, World.ownsRow_nil _ _ _ _, hb1, fun qs h => h⟩
    case round =>
      obtain ⟨wo, rfl⟩ : ∃ wo : World, wo = wr := ⟨_, rfl⟩
      obtain ⟨k, c2, n2, a2, ps, rfl, rfl, hk, hn2, hps, hown, hB, hdec⟩ := hrel
      by_cases hlt : k < l.length
      · obtain ⟨b, off, rfl, hb, hc⟩ := Hs.out.atInt hlt
        have Hc := hid (fun j h W (hW : Below wo.heap.size wo W) => (hW.cell (p := ⟨b, off + j, none⟩) (Nat.lt_of_lt_of_le hb hB.size)).trans ((hB.cell (p := ⟨b, off + j, none⟩) hb).trans (hc j h)))
        have hltI : (k : Int) < (l.length : Int) := by omega
        clear hc
        go_upto_block 2 with fail
        go_cut [5] from 15 to 44 (fun x5 wq => ∃ t : Nat, x5 = .int .i64 t ∧ k ≤ t ∧ t < l.length ∧ Hid (∀ j (h1 : k ≤ j) (h2 : j < t) (h3 : j + 1 < l.length), l[j + 1] - l[j] = stepOf (l.drop k)) ∧ Below wo.heap.size wo wq ∧ Hid (∀ h : t + 1 < l.length, l[t + 1] - l[t]'(by omega) ≠ stepOf (l.drop k)))
        case first =>
          go_wp2_with fail
          go_loopw [5] (fun x5 wq => ∃ t : Nat, x5 = .int .i64 t ∧ k ≤ t ∧ t < l.length ∧ Hid (∀ j (h1 : k ≤ j) (h2 : j < t) (h3 : j + 1 < l.length), l[j + 1] - l[j] = stepOf (l.drop k)) ∧ Below wo.heap.size wo wq) (fun x5 _ => l.length - (intOf x5).toNat)
          case atStart => exact ⟨k, rfl, by omega, hlt, fun j h1 h2 => by omega, Below.refl _ _⟩
          case round =>
            obtain ⟨t, rfl, hkt, htl, hrun, hBq⟩ := hrel
            have ek := Hc.out k hlt wr hBq
            have et := Hc.out t htl wr hBq
            have bk := hbd.out _ (List.getElem_mem hlt)
            have bt := hbd.out _ (List.getElem_mem htl)
            obtain ⟨x, hx⟩ : ∃ x, l[k] = x := ⟨_, rfl⟩
            obtain ⟨v, hv⟩ : ∃ x, l[t] = x := ⟨_, rfl⟩
            obtain ⟨bk1, bk2⟩ := bk
            obtain ⟨bt1, bt2⟩ := bt
            have Hx := hid hx
            have Hv := hid hv
            rw [hx] at ek bk1 bk2
            rw [hv] at et bt1 bt2
            clear hx hv
            by_cases h1 : t + 1 < l.length
            · have hk1 : k + 1 < l.length := by omega
              have ek1 := Hc.out (k + 1) hk1 wr hBq
              have et1 := Hc.out (t + 1) h1 wr hBq
              have bk1' := hbd.out _ (List.getElem_mem hk1)
              have bt1' := hbd.out _ (List.getElem_mem h1)
              have hst := step_at l k hk1
              obtain ⟨y, hy⟩ : ∃ x, l[k + 1] = x := ⟨_, rfl⟩
              obtain ⟨u, hu⟩ : ∃ x, l[t + 1] = x := ⟨_, rfl⟩
              obtain ⟨by1, by2⟩ := bk1'
              obtain ⟨bu1, bu2⟩ := bt1'
              rw [Hx.out] at hst
              rw [hy] at ek1 by1 by2 hst
              rw [hu] at et1 bu1 bu2
              have Hst := hid hst
              have Hu := hid hu
              have h1I : (t : Int) + 1 < (l.length : Int) := by omega
              have h1D : decide ((t : Int) + 1 < (l.length : Int)) = true := by simpa using h1I

              clear hst hu hy
              by_cases hq : u - v = y - x
              · have hb : (u - v == y - x) = true := by simp [hq]
                have Hq := hid hq
                clear hq
                go_wp2
                go_quiet (fail)
                go_wp2
                refine ⟨⟨t + 1, by go_num, by omega, by omega, fun j h1 h2 h3 => ?_, below_drewN hBq _⟩, by simp [intOf]; omega⟩
                by_cases hjm : j = t
                · subst hjm; rw [Hu.out, Hv.out, Hq.out, Hst.out]
                · exact hrun.out j h1 (by omega) h3
              · have hb : (u - v == y - x) = false := by simp [hq]
                have Hq := hid hq
                clear hq
                go_wp2
                go_quiet (fail)
                go_wp2
                go_meet
                exact ⟨t, rfl, hkt, htl, hrun.out, below_drewN hBq _, fun h => by rw [Hu.out, Hv.out, Hst.out]; exact Hq.out⟩
            · have h1I : ¬ (t : Int) + 1 < (l.length : Int) := by omega
              have h1D : decide ((t : Int) + 1 < (l.length : Int)) = false := by simpa using h1I
              go_wp2
              go_quiet (fail)
              go_wp2
              go_meet
              exact ⟨t, rfl, hkt, htl, hrun.out, below_drewN hBq _, fun h => absurd h h1⟩
        case rest =>
          obtain ⟨t, rfl, hkt, htl, hrun, hBq, hend⟩ := hcut
          have ek := Hc.out k hlt wc hBq
          have et := Hc.out t htl wc hBq
          have bk := hbd.out _ (List.getElem_mem hlt)
          have bt := hbd.out _ (List.getElem_mem htl)
          have Hfa := hid (first_at l k t hkt htl (fun j h1 h2 => hrun.out j h1 h2 (by omega)) hend.out)
          obtain ⟨x, hx⟩ : ∃ x, l[k] = x := ⟨_, rfl⟩
          obtain ⟨v, hv⟩ : ∃ x, l[t] = x := ⟨_, rfl⟩
          have Hx := hid hx
          have Hv := hid hv
          rw [hx] at ek bk Hfa
          rw [hv] at et bt Hfa
          obtain ⟨bk1, bk2⟩ := bk
          obtain ⟨bt1, bt2⟩ := bt
          clear hx hv hrun hend
          go_upto_if 47 with fail
          go_cut [6] from 47 to 57 (fun x6 wx => ∃ sv : Int, x6 = .int .i64 sv ∧ Hid (t = k → sv = 1) ∧ Hid (t ≠ k → sv = stepOf (l.drop k)) ∧ -9999 ≤ sv ∧ sv ≤ 9999 ∧ Below wo.heap.size wo wx)
          case first =>
            by_cases htk : t = k
            · have b1 : decide ((k : Int) < (t : Int)) = false := by simp; omega
              have Htk := hid htk
              have htI : ¬ (k : Int) < (t : Int) := by omega
              clear htk
              go_wp2
              go_meet
              exact ⟨1, rfl, fun _ => rfl, fun h => absurd Htk.out h, by omega, by omega, hBq⟩
            · have hk1 : k + 1 < l.length := by omega
              have ek1 := Hc.out (k + 1) hk1 wc hBq
              have bk1' := hbd.out _ (List.getElem_mem hk1)
              have hst := step_at l k hk1
              obtain ⟨y, hy⟩ : ∃ x, l[k + 1] = x := ⟨_, rfl⟩
              obtain ⟨by1, by2⟩ := bk1'
              rw [Hx.out] at hst
              rw [hy] at ek1 by1 by2 hst
              have b1 : decide ((k : Int) < (t : Int)) = true := by simp; omega
              have htI : (k : Int) < (t : Int) := by omega
              have hw2 : IntKind.i64.wrap (y - x) = y - x := IntWalk.i64_in _ (by omega)
              have Hst := hid hst
              have Htk := hid htk
              clear hst hy htk
              go_wp2
              go_quiet (fail)
              go_wp2
              go_meet
              exact ⟨y - x, rfl, fun h => absurd h Htk.out, fun _ => Hst.out.symm, by omega, by omega, below_drewN hBq _⟩
          case rest =>
            obtain ⟨sv, rfl, s1, s2, s3, s4, hBs⟩ := hcut
            go_upto_region 12 with fail
            go_cut [65] from 58 to 65 (fun x65 wx => x65 = .bool (decide (t = k + 1) && decide (1 < sv)) ∧ Below wo.heap.size wo wx)
            case first =>
              by_cases htk1 : t = k + 1
              · have b2 : ((t : Int) == (k : Int) + 1) = true := by simp; omega
                have b3 : decide (t = k + 1) = true := by simpa using htk1
                have B3 := hid b3
                clear htk1 b3
                go_wp2
                go_meet
                exact ⟨by rw [B3.out]; simp, hBs⟩
              · have b2 : ((t : Int) == (k : Int) + 1) = false := by simp; omega
                have b3 : decide (t = k + 1) = false := by simpa using htk1
                have B3 := hid b3
                clear htk1 b3
                go_wp2
                go_meet
                exact ⟨by rw [B3.out]; simp, hBs⟩
            case rest =>
              obtain ⟨rfl, hBs2⟩ := hcut
              go_upto_if 65 with fail
              go_cut [5, 6] from 65 to 66 (fun x5 x6 wx => ∃ (t' : Nat) (st' v' : Int), x5 = .int .i64 t' ∧ x6 = .int .i64 st' ∧ k ≤ t' ∧ -9999 ≤ st' ∧ st' ≤ 9999 ∧ ∃ ht : t' < l.length, Hid (l[t'] = v') ∧ Hid (FirstIs (l.drop k) (x, v', st') (t' - k + 1)) ∧ Below wo.heap.size wo wx)
              case first =>
                by_cases hq : t = k + 1 ∧ 1 < sv
                · have hb5 : (decide (t = k + 1) && decide (1 < sv)) = true := by simpa using hq
                  have hf : Hid (FirstIs (l.drop k) (x, x, 1) 1) := Hfa.out.1 (.inr ⟨hq.1, by rw [← s2.out (by omega)]; exact hq.2⟩)
                  rw [hb5]
                  clear hq hb5
                  go_wp2
                  go_meet
                  exact ⟨k, 1, x, rfl, rfl, Nat.le_refl _, by omega, by omega, hlt, Hx.out, by rw [Nat.sub_self]; exact hf.out, hBs2⟩
                · have hb5 : (decide (t = k + 1) && decide (1 < sv)) = false := by simpa using hq
                  have hf : Hid (FirstIs (l.drop k) (x, v, sv) (t - k + 1)) := by
                    by_cases htk : t = k
                    · have h1 := Hfa.out.1 (.inl htk)
                      have h2 : v = x := by rw [← Hv.out, ← Hx.out]; simp only [htk]
                      rw [h2, s1.out htk, show t - k + 1 = 1 by omega]
                      exact h1
                    · have h1 := Hfa.out.2 (by rintro (h | h); exact htk h; exact hq ⟨h.1, by rw [s2.out htk]; exact h.2⟩)
                      rw [s2.out htk]
                      exact h1
                  rw [hb5]
                  clear hq hb5
                  go_wp2
                  go_meet
                  exact ⟨t, sv, v, rfl, rfl, hkt, by omega, by omega, htl, Hv.out, hf.out, hBs2⟩
              case rest =>
                obtain ⟨t', st', v', rfl, rfl, hkt', h1, h2, ht', hv', hf, hBr⟩ := hcut
                have ek := Hc.out k hlt wc hBr
                have et := Hc.out t' ht' wc hBr
                rw [Hx.out] at ek
                rw [hv'.out] at et
                obtain ⟨i0, hi0, hz0, hz1, hz2⟩ := info_parts eRPiece.hi
                have Hown := hid (owns_below hown.out hBr (Nat.le_refl _))
                have ag : (Value.slice a2 n2 c2).ownBlock ≠ some b := fun e => by have := (owns_lt hown.out e).1; omega
                have hszr := hBr.size
                have hszo := hB.size
                have HBr := hid hBr
                clear hBr hBs hBs2 hBq
                go_wp2_with fail
                go_region_held3 (fun w' => w'.cell? ⟨b, off + k, none⟩ = some (.int .i64 x) ∧ w'.cell? ⟨b, off + t', none⟩ = some (.int .i64 v'))
                  (first
                    | go_keep
                    | (go_split_ands
                       refine ⟨?_, ?_⟩
                       · (rw [hgrow.cell_far _ (by simp; omega) (Ne.symm ag)]; assumption)
                       · (rw [hgrow.cell_far _ (by simp; omega) (Ne.symm ag)]; assumption)))
                  ((refine step_append_lies _ (by rfl) _ _ _ (by rfl) w.heap.size 112 i0 _ 3 24 eRPiece.ht hi0 hz0 hz1 hz2 rfl (by omega) (.slice a2 n2 c2) n2 _ (by rfl) ((Hown.out.alloc _).drew)
                      ⟨wc.heap.size, 0, none⟩ 1 1 [.int .i64 x, .int .i64 v', .int .i64 st'] (by rfl) (by rfl) (World.news_of_block (cs := #[.int .i64 x, .int .i64 v', .int .i64 st']) (t := 112) (fr := (0, 0)) (heap_alloc_new wc _)) (by simp [Value.oneCell'])
                      (by omega) (by unfold maxLen; omega) (by omega) (by simp; omega) (wc.heap.size + 1) (by simp) ?_; intro gg cap' w1 hown1 hgrow hat hgl))
                have hkk : k + (t' - k + 1) = t' + 1 := by omega
                have hd := decomp_snoc hdec.out hlt hf.out
                rw [hkk] at hd
                have Hd := hid hd
                have htr : trips (ps ++ [(x, v', st')]) = trips ps ++ [.int .i64 x, .int .i64 v', .int .i64 st'] := by rw [trips_append]; rfl
                rw [← htr] at hown1
                have hb1' : Below w.heap.size w w1 := (below_new (hB.trans (HBr.out.mono (by omega))) (by omega)).drew.trans (Below.of_grown hgrow (by simp; omega) (fun k hk => (owns_lt Hown.out hk).1))
                have HOwn1 := hid hown1
                have HB1 := hid hb1'
                have Hl1 : Hid (n2 + 1 = (ps ++ [(x, v', st')]).length) := by show _ = _; rw [List.length_append, ← hn2.out]; rfl
                clear hkk hd htr hown1 hb1' hgrow hat ag
                go_wp2
                exact ⟨⟨t' + 1, cap', n2 + 1, some ⟨gg, 0, none⟩, ps ++ [(x, v', st')], by go_num, rfl, by omega, Hl1.out, by omega, HOwn1.out, HB1.out, Hd.out⟩, by simp [intOf]; omega⟩
      · have hkl : k = l.length := by omega
        have Hkl := hid hkl
        have hltI : ¬ (k : Int) < (l.length : Int) := by omega
        clear hkl
        go_wp2
        go_ret
        refine ⟨_, rfl, ps, .inl ⟨hM.out, ?_⟩, by rw [← hn2.out]; exact hown.out, hB⟩
        have := hdec.out [] (by simp [Decomp]; have := Hkl.out; omega)
        simpa using this
  · have hM := hid hmay
    clear hmay
    have hmc' : Calls Tryd.prog 89 #[.slice a l.length cap] w fun e w' => e = .returned (.bool false) ∧ Below w.heap.size w w' := hmc.mono fun e w' ⟨⟨b, he, hb⟩, h2⟩ => ⟨by
      cases b with
      | false => exact he
      | true => exact absurd (hb.1 rfl) hM.out, h2⟩
    have Hmc := hid hmc'
    clear hmc hmc'
    go_enter Tryd.func48, Tryd.ntmps48
    go_wp2_with (go_at_call 89; refine Hmc.out.mono ?_; rintro e w1 ⟨rfl, hb1⟩)
    go_ret
    exact ⟨_, [], rfl, .inr ⟨hM.out, rfl⟩, World.ownsRow_nil _ _ _ _, hb1⟩
end Go.Proofs.YtdggflkkojmabaaDoor.Cov

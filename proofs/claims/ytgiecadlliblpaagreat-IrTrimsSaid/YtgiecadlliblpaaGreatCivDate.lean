/-
  What civil.Date, civil.Ordinal, feriaref05.Date and feriaref05.Ordinal compute, of the window's days.
-/
import Derived.Test.YtgiecadlliblpaaGreatCivBase
import Derived.Scope
namespace Go.Proofs.YtgiecadlliblpaaGreat
open Go.RowKit
set_option linter.unusedVariables false

theorem results_tmp4 {fn : Func} {t u v x : Tmp} (h : fn.results = #[.tmp t, .tmp u, .tmp v, .tmp x]) (tmps : Array Value) (P : Program) (w : World) :
    (results fn tmps).run P w = .ok (.tuple #[tmps.getD t undef, tmps.getD u undef, tmps.getD v undef, tmps.getD x undef]) w := by
  simp [results, h]
theorem fDate_facts {n : Int} (h0 : 0 ≤ n) (h1 : n < 146097) : 0 ≤ fK n ∧ fK n < 400 ∧ 0 ≤ fL n ∧ fL n < 366 := by
  obtain ⟨m, e, hd, h⟩ := fDate n h0 h1
  exact h
set_option maxHeartbeats 1600000 in
theorem CDate_any (n : Int) (w : World) (h0 : 0 ≤ n) (h1 : n < 146097) : Calls Tryz.prog 64 #[.int .i64 n] w fun e w' => e = .returned (.tuple #[.int .i64 (fY n), .int .i64 (fMo n), .int .i64 (fD n), .bool true]) ∧ Below w.heap.size w w' := by
  obtain ⟨y0, y1, m0, m1, d0, d1⟩ := fDate_year h0 h1
  obtain ⟨k0, k1, l0, l1⟩ := fDate_facts h0 h1
  have c1 := hid (fun W => Floor_pos n 365 W h0 (by omega) (by omega))
  have c2 := hid (fun W => Floor_pos (n + 719468) 146097 W (by omega) (by omega) (by omega))
  have c3 := hid (fun W => Mod_pos (n + 719468) 146097 W (by omega) (by omega))
  have c4 := hid (fun W => CMay_yes (fY n) (fMo n) (fD n) W (by omega) (by omega) m0 m1 d0 d1)
  have eO : Hid ((n + 719468) % 146097 = fO n) := rfl
  have eN : Hid ((n + 719468) / 146097 = fN n / 146097) := rfl
  have eK : Hid ((fO n - fO n / 1460 + fO n / 36524 - fO n / 146096) / 365 = fK n) := rfl
  have eL : Hid (fO n - (fK n * 365 + fK n / 4 - fK n / 100) = fL n) := rfl
  have eM : Hid ((5 * fL n + 2) / 153 = fM n) := rfl
  have eD : Hid (fL n - (153 * fM n + 2) / 5 + 1 = fD n) := rfl
  have eMo : Hid ((fM n + 2) % 12 + 1 = fMo n) := rfl
  have eY : Hid (fN n / 146097 * 400 + fK n + (if fMo n ≤ 2 then 1 else 0) = fY n) := rfl
  have bO : 0 ≤ fO n ∧ fO n < 146097 := by unfold fO; omega
  have bN : 0 ≤ fN n / 146097 ∧ fN n / 146097 ≤ 10 := by unfold fN; omega
  have bM : 0 ≤ fM n ∧ fM n ≤ 12 := by unfold fM; omega
  obtain ⟨o, ho⟩ : ∃ o, fO n = o := ⟨_, rfl⟩
  obtain ⟨er, her⟩ : ∃ o, fN n / 146097 = o := ⟨_, rfl⟩
  obtain ⟨k, hk⟩ : ∃ o, fK n = o := ⟨_, rfl⟩
  obtain ⟨l, hl⟩ : ∃ o, fL n = o := ⟨_, rfl⟩
  obtain ⟨mp, hmp⟩ : ∃ o, fM n = o := ⟨_, rfl⟩
  obtain ⟨d, hd⟩ : ∃ o, fD n = o := ⟨_, rfl⟩
  obtain ⟨mo, hmo⟩ : ∃ o, fMo n = o := ⟨_, rfl⟩
  obtain ⟨y, hy⟩ : ∃ o, fY n = o := ⟨_, rfl⟩
  rw [ho] at eO eK eL bO
  rw [her] at eN eY bN
  rw [hk] at eK eL eY k0 k1
  rw [hl] at eL eM eD l0 l1
  rw [hmp] at eM eD eMo bM
  rw [hd] at eD c4 d0 d1 ⊢
  rw [hmo] at eMo eY c4 m0 m1 d1 ⊢
  rw [hy] at eY c4 y0 y1 d1 ⊢
  rw [eO.out] at c3
  rw [eN.out] at c2
  clear ho her hk hl hmp hd hmo hy eO eN d1
  obtain ⟨o0, o1⟩ := bO
  obtain ⟨e0, e1⟩ := bN
  obtain ⟨mp0, mp1⟩ := bM
  have q1 : 0 ≤ n / 365 ∧ n / 365 ≤ 1000 := by omega
  go_enter Tryz.func64, Tryz.ntmps64
  go_wp2_with fail
  refine (c1.out _).mono ?_
  rintro e w' ⟨rfl, rfl⟩
  obtain ⟨q10, q11⟩ := q1
  go_wp2_with fail
  refine (c1.out _).mono ?_
  rintro e w' ⟨rfl, rfl⟩
  go_wp2_with fail
  refine (c2.out _).mono ?_
  rintro e w' ⟨rfl, rfl⟩
  go_wp2_with fail
  refine (c3.out _).mono ?_
  rintro e w' ⟨rfl, rfl⟩
  have eK' := eK.out
  have eL' := eL.out
  have eM' := eM.out
  have eD' := eD.out
  have eMo' := eMo.out
  by_cases hm2 : mo ≤ 2
  all_goals
    have hy2 := eY.out
    first | rw [if_pos hm2] at hy2 | rw [if_neg hm2, Int.add_zero] at hy2
    go_wp2_with fail
    refine (c4.out _).mono ?_
    rintro e w' ⟨rfl, hB⟩
    have HB := hid hB
    clear hB
    go_wp2
    refine bodyPost_ret (results_tmp4 rfl _ _ _) rfl ?_
    exact ⟨rfl, HB.out⟩

theorem ord_eq {n y : Int} {m : Nat} {d : Int} (h : IsDate n y m d) : msI y m + d = n - ysI y + 1 := by have := h.sum; omega
/-- which day of its year a day is -/
def fOr (n : Int) : Int := n - ysI (fY n) + 1
theorem fOr_ms {n : Int} (h0 : 0 ≤ n) (h1 : n < 146097) : msI (fY n) (fMo n).toNat + fD n = fOr n ∧ 1 ≤ fOr n ∧ fOr n ≤ 365 + leapI (fY n) := by
  obtain ⟨m, e, hd, _⟩ := fDate n h0 h1
  have h := ord_eq hd
  have h2 := msI_bd hd.m0 hd.m1 hd.d0 hd.d1
  rw [e, Int.toNat_natCast]
  unfold fOr
  omega
theorem msI_one (y : Int) : msI y 1 = 0 := rfl
set_option maxHeartbeats 1600000 in
theorem COrd_any (y : Int) (m : Nat) (d : Int) (w : World) (h0 : 0 ≤ y) (hy : y ≤ 3000) (h1 : 1 ≤ m) (h2 : m ≤ 12) (h3 : 1 ≤ d) (h4 : d ≤ lenI y m) :
    Calls Tryz.prog 65 #[.int .i64 y, .int .i64 m, .int .i64 d] w fun e w' => e = .returned (.tuple #[.int .i64 (msI y m + d), .bool true]) ∧ Below w.heap.size w w' := by
  have c1 := hid (CMay_yes y m d w h0 hy (by omega) (by omega) h3 h4)
  have c2 := hid (fun (k : Nat) W (a : 1 ≤ k) (b : k ≤ 12) => Length_any y k W h0 (by omega) (by omega))
  have hn := hid (fun k a b => msI_next y k a b)
  have hb := lenI_bd y m
  have hl := hid (fun k a b => (msI_bd (y := y) (m := k) (d := 1) a b (by omega) (by have := lenI_bd y k; omega)))
  have hlb := hid (fun (k : Int) => lenI_bd y k)
  have hlp := leapI_bd y
  have hd32 : d ≤ 31 := by omega
  clear h4 hb
  go_enter Tryz.func65, Tryz.ntmps65
  go_wp2_with fail
  refine wp_scope_straight ?_
  go_wp2_with fail
  refine c1.out.mono ?_
  rintro e w1 ⟨rfl, hB1⟩
  have HB1 := hid hB1
  clear hB1 c1
  go_wp2_with fail
  refine wp_label ?_
  go_wp2_with fail
  go_loopw [8, 9] (fun v i wr => ∃ k : Nat, i = .int .i64 k ∧ 1 ≤ k ∧ k ≤ m ∧ v = .int .i64 (msI y k + d) ∧ Hid (Below w.heap.size w wr) ∧ w.heap.size ≤ wr.heap.size) (fun _ i _ => (13 - intOf i).toNat)
  case atStart => exact ⟨1, rfl, by omega, h1, by rw [msI_one, Int.zero_add], HB1.out, HB1.out.size⟩
  case round =>
    obtain ⟨k, rfl, hk1, hkm, rfl, HB, hsz⟩ := hrel
    have b1 := hl.out k hk1 (by omega)
    by_cases hk : k = m
    · subst hk
      have hbq : ((k : Int) == (k : Int)) = true := by simp
      have hk12 : (k : Int) ≤ 12 := by omega
      clear hn hl
      obtain ⟨q, hq⟩ : ∃ q, msI y k = q := ⟨_, rfl⟩
      rw [hq] at b1 ⊢
      have Hq := hid hq
      clear hq
      go_wp2
      simp only [Exit.noGoto]
      go_ret2
      exact ⟨by rw [Hq.out]; rfl, HB.out⟩
    · have hk12 : k < 12 := by omega
      have hbq : ((k : Int) == (m : Int)) = false := by simp; omega
      have hkI : (k : Int) ≤ 12 := by omega
      have hnx := hid (hn.out k hk1 hk12)
      have c2' := hid (c2.out k wr hk1 (by omega))
      have hlk := hlb.out k
      obtain ⟨q, hq⟩ : ∃ q, msI y k = q := ⟨_, rfl⟩
      obtain ⟨lk, hlk2⟩ : ∃ q, lenI y k = q := ⟨_, rfl⟩
      rw [hq] at b1 hnx ⊢
      rw [hlk2] at hnx c2' hlk
      have hklt : k < m := by omega
      clear hq hlk2 hn hl c2 hlb hk
      go_wp2_with fail
      refine c2'.out.mono ?_
      rintro e w2 ⟨rfl, hB2⟩
      have HB2 : Hid (Below w.heap.size w w2) := HB.out.trans (hB2.mono hsz)
      have hsz2 : w.heap.size ≤ w2.heap.size := Nat.le_trans hsz hB2.size
      clear hB2
      go_wp2
      exact ⟨⟨k + 1, by go_num, by omega, by omega, by rw [hnx.out]; congr 1; omega, HB2.out, hsz2⟩, by simp [intOf]; omega⟩
set_option maxHeartbeats 1600000 in
theorem ROrd_any (y : Int) (m : Nat) (d : Int) (w : World) (h0 : 0 ≤ y) (hy : y ≤ 3000) (h1 : 1 ≤ m) (h2 : m ≤ 12) (h3 : 1 ≤ d) (h4 : d ≤ 31) :
    Calls Tryz.prog 73 #[.int .i64 y, .int .i64 m, .int .i64 d] w fun e w' => e = .returned (.int .i64 (msI y m + d)) ∧ w = w' := by
  have c2 := hid (fun (k : Nat) W (a : 1 ≤ k) (b : k ≤ 12) => RLength_any y k W h0 (by omega) (by omega))
  have hn := hid (fun k a b => msI_next y k a b)
  have hl := hid (fun k a b => (msI_bd (y := y) (m := k) (d := 1) a b (by omega) (by have := lenI_bd y k; omega)))
  have hlb := hid (fun (k : Int) => lenI_bd y k)
  have hlp := leapI_bd y
  go_enter Tryz.func73, Tryz.ntmps73
  go_wp2_with fail
  go_loopw [7, 8] (fun v i wr => ∃ k : Nat, i = .int .i64 k ∧ 1 ≤ k ∧ k ≤ m ∧ v = .int .i64 (msI y k + d) ∧ wr = w) (fun _ i _ => (13 - intOf i).toNat)
  case atStart => exact ⟨1, rfl, by omega, h1, by rw [msI_one, Int.zero_add], rfl⟩
  case round =>
    obtain ⟨k, rfl, hk1, hkm, rfl, rfl⟩ := hrel
    have b1 := hl.out k hk1 (by omega)
    by_cases hk : k = m
    · subst hk
      clear hn hl
      obtain ⟨q, hq⟩ : ∃ q, msI y k = q := ⟨_, rfl⟩
      rw [hq] at b1 ⊢
      have Hq := hid hq
      clear hq
      go_wp2
      go_ret
      exact ⟨by rw [Hq.out]; rfl, rfl⟩
    · have hk12 : k < 12 := by omega
      have hkI : (k : Int) < (m : Int) := by omega
      have hnx := hid (hn.out k hk1 hk12)
      have c2' := hid (c2.out k wr hk1 (by omega))
      have hlk := hlb.out k
      obtain ⟨q, hq⟩ : ∃ q, msI y k = q := ⟨_, rfl⟩
      obtain ⟨lk, hlk2⟩ : ∃ q, lenI y k = q := ⟨_, rfl⟩
      rw [hq] at b1 hnx ⊢
      rw [hlk2] at hnx c2' hlk
      clear hq hlk2 hn hl c2 hlb hk
      go_wp2_with fail
      refine c2'.out.mono ?_
      rintro e w' ⟨rfl, rfl⟩
      go_wp2
      exact ⟨⟨k + 1, by go_num, by omega, by omega, by rw [hnx.out]; congr 1; omega, by trivial⟩, by simp [intOf]; omega⟩

set_option maxHeartbeats 1600000 in
theorem RDate_any (n : Int) (w : World) (h0 : 0 ≤ n) (h1 : n < 146097) : Calls Tryz.prog 70 #[.int .i64 n] w fun e w' => e = .returned (.tuple #[.int .i64 (fY n), .int .i64 (fMo n), .int .i64 (fD n), .bool true]) ∧ w = w' := by
  obtain ⟨M, eM, hD, _⟩ := fDate n h0 h1
  have hz : n / 146097 = 0 := by omega
  have c1 := hid (fun W => RFloor_pos n 146097 W h0 (by omega) (by omega))
  rw [hz] at c1
  have c2 := hid (fun y W (h : 0 ≤ y) => RYear_any y W h)
  have c3 := hid (fun y m W (h : 0 ≤ y) a b => RLength_any y m W h a b)
  rw [eM]
  obtain ⟨Y, hY⟩ : ∃ y, fY n = y := ⟨_, rfl⟩
  obtain ⟨Dd, hd⟩ : ∃ y, fD n = y := ⟨_, rfl⟩
  rw [hY, hd] at hD ⊢
  have HD := hid hD
  have hyn := hid ysI_next
  have hnx := hid (fun k a b => msI_next Y k a b)
  have hlt := hid (fun (y : Int) (h : y < Y) => ysI_lt h)
  have hbd := hid (msI_bd hD.m0 hD.m1 hD.d0 hD.d1)
  have hy0 := hD.y0
  have hy1 := hD.y1
  clear hD hY hd eM hz
  go_enter Tryz.func70, Tryz.ntmps70
  go_wp2_with fail
  refine (c1.out _).mono ?_
  rintro e w' ⟨rfl, rfl⟩
  go_wp2_with fail
  go_loopw [7, 8] (fun l v wr => ∃ y : Int, v = .int .i64 y ∧ 1970 ≤ y ∧ y ≤ Y ∧ l = .int .i64 (n - ysI y) ∧ ysI y ≤ n ∧ 0 ≤ ysI y ∧ wr = w) (fun _ v _ => (3000 - intOf v).toNat)
  case atStart => exact ⟨1970, rfl, by omega, hy0, by rw [ysI_first, Int.sub_zero], by rw [ysI_first]; exact h0, by rw [ysI_first]; omega, rfl⟩
  case round =>
    obtain ⟨y, rfl, hy2, hy3, rfl, hy4, hy5, rfl⟩ := hrel
    have c2' := hid (c2.out y wr (by omega))
    have hl := leapI_bd y
    by_cases hk : y < Y
    · have hge : ysI y + 365 + leapI y ≤ n := by
        have := hlt.out y hk
        have h3 := HD.out.sum
        have h4 := hbd.out
        omega
      have hyn' := hid (hyn.out y)
      obtain ⟨s, hs⟩ : ∃ s, ysI y = s := ⟨_, rfl⟩
      obtain ⟨l, hll⟩ : ∃ s, leapI y = s := ⟨_, rfl⟩
      rw [hs] at hge hyn' hy4 hy5 ⊢
      rw [hll] at hge hyn' c2' hl
      clear hs hll hyn hlt
      go_wp2_with fail
      refine c2'.out.mono ?_
      rintro e w' ⟨rfl, rfl⟩
      go_wp2_with fail
      refine c2'.out.mono ?_
      rintro e w' ⟨rfl, rfl⟩
      go_wp2
      exact ⟨⟨y + 1, rfl, by omega, by omega, by rw [hyn'.out]; congr 1; omega, by rw [hyn'.out]; omega, by rw [hyn'.out]; omega, by trivial⟩, by simp [intOf]; omega⟩
    · obtain rfl : y = Y := by omega
      have hb2 := hbd.out
      have hsum := HD.out.sum
      have hlt2 : n - ysI y < 365 + leapI y := by omega
      obtain ⟨L, hL⟩ : ∃ s, n - ysI y = s := ⟨_, rfl⟩
      obtain ⟨l, hll⟩ : ∃ s, leapI y = s := ⟨_, rfl⟩
      have hL0 : 0 ≤ L := by omega
      have HL : Hid (L = msI y M + Dd - 1) := by show _ = _; omega
      rw [hL] at hlt2 ⊢
      rw [hll] at hlt2 c2' hl
      have hM := hid HD.out.m1
      have hM0 := hid HD.out.m0
      have hd0 := HD.out.d0
      have hd1 := hid HD.out.d1
      clear hL hll hyn hlt hbd HD hb2 hsum hy4 hy5
      go_wp2_with fail
      refine c2'.out.mono ?_
      rintro e w' ⟨rfl, rfl⟩
      go_wp2_with fail
      obtain ⟨wo, rfl⟩ : ∃ wo : World, wo = wr := ⟨_, rfl⟩
      go_loopw [7, 9] (fun r i wq => ∃ k : Nat, i = .int .i64 k ∧ 1 ≤ k ∧ k ≤ M ∧ r = .int .i64 (L - msI y k) ∧ 0 ≤ L - msI y k ∧ 0 ≤ msI y k ∧ wq = wo) (fun _ i _ => (13 - intOf i).toNat)
      case atStart => exact ⟨1, rfl, by omega, hM0.out, by rw [msI_one, Int.sub_zero], by rw [msI_one]; omega, by rw [msI_one]; omega, by trivial⟩
      case round =>
        obtain ⟨k, rfl, hk1, hkm, rfl, hk3, hk4, rfl⟩ := hrel
        have hk12 : (k : Int) ≤ 12 := by have := hM.out; omega
        have c3' := hid (c3.out y k wr (by omega) (by omega) hk12)
        have hlk := lenI_bd y k
        by_cases hkM : k = M
        · subst hkM
          have hlt3 : L - msI y k < lenI y k := by have := HL.out; have := hd1.out; omega
          have HR : Hid (L - msI y k + 1 = Dd) := by show _ = _; have := HL.out; omega
          obtain ⟨q, hq⟩ : ∃ q, msI y k = q := ⟨_, rfl⟩
          obtain ⟨lk, hlk2⟩ : ∃ q, lenI y k = q := ⟨_, rfl⟩
          rw [hq] at hk3 hk4 HR hlt3 ⊢
          rw [hlk2] at c3' hlk hlt3
          clear hq hlk2 hnx
          go_wp2_with fail
          refine c3'.out.mono ?_
          rintro e w' ⟨rfl, rfl⟩
          go_wp2
          refine bodyPost_ret (results_tmp4 rfl _ _ _) rfl ?_
          rw [← HR.out]
          exact ⟨rfl, rfl⟩
        · have hge : lenI y k ≤ L - msI y k := by
            have := msI_lt (y := y) hk1 (show k < M by omega) hM.out
            have := HL.out
            omega
          have hnx' := hid (hnx.out k hk1 (by have := hM.out; omega))
          obtain ⟨q, hq⟩ : ∃ q, msI y k = q := ⟨_, rfl⟩
          obtain ⟨lk, hlk2⟩ : ∃ q, lenI y k = q := ⟨_, rfl⟩
          rw [hq] at hk3 hk4 hnx' hge ⊢
          rw [hlk2] at c3' hlk hge hnx'
          clear hq hlk2 hnx
          go_wp2_with fail
          refine c3'.out.mono ?_
          rintro e w' ⟨rfl, rfl⟩
          go_wp2_with fail
          refine c3'.out.mono ?_
          rintro e w' ⟨rfl, rfl⟩
          go_wp2
          exact ⟨⟨k + 1, by go_num, by omega, by omega, by rw [hnx'.out]; congr 1; omega, by rw [hnx'.out]; omega, by rw [hnx'.out]; omega, by trivial⟩, by simp [intOf]; omega⟩
end Go.Proofs.YtgiecadlliblpaaGreat

/-
  feriaref16.Of and All: the seconds of a day that have a clause, and those that have one of clauses.
  ferialaw18.RollDays answers true for every clauses and days.
  Sets without a step below a day, of the whole window: how many discs a roll makes of them.
-/
import Derived.Test.YtcbanlgnanihhaaGreatDoorQc116f1
import Derived.Test.YtcbanlgnanihhaaGreatDoorQa72c12
import Derived.Test.YtcbanlgnanihhaaGreatDoorQ37adec
namespace Go.Proofs.YtcbanlgnanihhaaGreatDoor
open Go.RowKit
set_option linter.unusedVariables false

/-- the seconds of a day that have a clause, as feriaref16.Of lists them -/
def rofB (c : Cl) (n x : Int) : Bool := betB c.fr c.un (86400 * n + x) && (decide (sizeU c.unit = 0) || onB c.unit c.step c.anchor (86400 * n + x))
def rofL (c : Cl) (n : Int) : List Int := if dayC c n then (secsOf (c.m 2) (c.m 1) (c.m 0)).filter (rofB c n) else []
theorem secsOf_count' (hs ms ss : Nat) : (secsOf hs ms ss).length ≤ 86400 := by
  have key : ∀ (L : List Int), L.Pairwise (· < ·) → (∀ y ∈ L, 0 ≤ y) → ∀ i (hi : i < L.length), (i : Int) ≤ L[i] := fun L hr h0 i => by
    induction i with
    | zero => exact fun hi => h0 _ (List.getElem_mem hi)
    | succ i ih =>
      intro hi
      have h1 := ih (by omega)
      have h2 := List.pairwise_iff_getElem.mp hr i (i + 1) (by omega) hi (by omega)
      omega
  rcases Nat.eq_zero_or_pos (secsOf hs ms ss).length with h | h
  · omega
  · have h1 := key _ (secsOf_rising hs ms ss) (fun y hy => (secsOf_bd hs ms ss hy).1) ((secsOf hs ms ss).length - 1) (by omega)
    have h2 := secsOf_bd hs ms ss (List.getElem_mem (l := secsOf hs ms ss) (n := (secsOf hs ms ss).length - 1) (by omega))
    omega
theorem rofL_len (c : Cl) (n : Int) : (rofL c n).length ≤ 86400 := by
  rw [rofL]; split
  · exact Nat.le_trans (List.length_filter_le _ _) (secsOf_count' _ _ _)
  · simp
theorem rofL_mem {c : Cl} (hc : c.Ok) {n : Int} (h0 : 0 ≤ n) (h1 : n < 146097) {k : Nat} (hk : k < 86400) : (k : Int) ∈ rofL c n ↔ hasC c (86400 * n + k) = true := by
  have hw : winB (86400 * n + k) = true := by rw [winB, decide_eq_true_eq]; omega
  have e1 : (86400 * n + (k : Int)) % 86400 = k := by omega
  have e2 : (86400 * n + (k : Int)) / 86400 = n := by omega
  have hs := secsOf_mem (hc.m 2 (by omega)) (hc.m 1 (by omega)) (hc.m 0 (by omega)) (k := (k : Int)) (by omega) (by omega)
  rw [rofL, hasC, hw, e1, e2, Bool.true_and]
  cases hd : dayC c n
  · simp
  · have hd' := hd
    rw [dayC, Bool.and_eq_true, Bool.and_eq_true] at hd'
    obtain ⟨hm, -, hon⟩ := hd'
    obtain ⟨ho, hst, hu, ha⟩ := may_ord hm
    rw [if_pos rfl, List.mem_filter, hs, hm, rofB, Bool.true_and, Bool.and_true, Bool.and_eq_true, Bool.and_eq_true, Bool.and_eq_true, Bool.or_eq_true, decide_eq_true_eq]
    constructor
    · rintro ⟨g1, g2, g3⟩
      refine ⟨g2, g1, ?_⟩
      rcases g3 with g3 | g3
      · have := dayOn_on hu ha hst (t := 86400 * n + k) (by omega) (by omega) g3
        rw [e2] at this
        rw [← this]; exact hon
      · exact g3
    · rintro ⟨g1, g2, g3⟩
      exact ⟨g2, g1, .inr g3⟩
attribute [local go_sem ↓] loadAt_cl
abbrev LrS (w : World) (c : Cl) (W : World) : Prop := (loadClS (.pointer (some ⟨w.heap.size, 0, none⟩))).run Tryz.prog W = .ok (clv c) W ∧ ClB W w.heap.size c ∧ Below w.heap.size w W ∧ w.heap.size < W.heap.size
theorem LrS.of {w W : World} {c : Cl} (h : ClB W w.heap.size c) (hb : Below w.heap.size w W) (hs : w.heap.size < W.heap.size) : LrS w c W := ⟨h.ld, h, hb, hs⟩
theorem LrS.keep {w W W' : World} {c : Cl} (h : LrS w c W) (hb : Below W.heap.size W W') : LrS w c W' :=
  LrS.of (h.2.1.below hb h.2.2.2) (h.2.2.1.trans (hb.mono (Nat.le_of_lt h.2.2.2))) (Nat.lt_of_lt_of_le h.2.2.2 hb.size)
theorem filter_snoc {p : Int → Bool} {l : List Int} {k : Nat} (hk : k < l.length) : (l.take (k + 1)).filter p = (l.take k).filter p ++ if p l[k] then [l[k]] else [] := by
  rw [take_snoc l k hk, List.filter_append]
  cases h : p l[k] <;> simp [h]

set_option maxRecDepth 100000 in
set_option maxHeartbeats 3200000 in
theorem RLap16_any (c : Cl) (n : Int) (w : World) (hc : c.Ok) (h0 : 0 ≤ n) (h1 : n < 146097) :
    Calls Tryz.prog 50 #[clv c, .int .i64 n] w fun e w' => ∃ v, e = .returned v ∧ w'.ownsRow w.heap.size 3 1 v (rofL c n).length (ints (rofL c n)) ∧ Below w.heap.size w w' := by
  have HS0 : Hid (LrS w c (w.alloc (.cells (clList c).toArray 32)).drew) := (LrS.of (clB_new w c _) (below_new (Below.refl _ _) (Nat.le_refl _)) (by simp)).keep (Below.refl _ _).drew
  have cS := hid (fun W (h : LrS w c W) => keep_of' (RShape_any n W h0 h1) (fun _ => h.keep))
  have cD := hid (fun W (h : LrS w c W) => keep_of' (RDay13_any c n W hc h0 h1) (fun _ => h.keep))
  have cA := hid (fun W => own_ret (RAll_any (c.m 2) (c.m 1) (c.m 0) W (hc.m 2 (by omega)) (hc.m 1 (by omega)) (hc.m 0 (by omega))))
  have cZ := hid (fun W => RSize_any c.unit W)
  have cO := hid (fun t W => RUOn_any c.unit c.step c.anchor t W hc.step)
  have hz := sizeU_cases c.unit
  have hlen := secsOf_count' (c.m 2) (c.m 1) (c.m 0)
  have hbd := hid (fun x hx => secsOf_bd (c.m 2) (c.m 1) (c.m 0) (x := x) hx)
  have hR : Hid (rofL c n = if dayC c n then (secsOf (c.m 2) (c.m 1) (c.m 0)).filter (rofB c n) else []) := rfl
  have hB : Hid (∀ x, rofB c n x = (betB c.fr c.un (86400 * n + x) && (decide (sizeU c.unit = 0) || onB c.unit c.step c.anchor (86400 * n + x)))) := fun x => rfl
  rw [← secsOf] at cA
  obtain ⟨L, hL⟩ : ∃ L, secsOf (c.m 2) (c.m 1) (c.m 0) = L := ⟨_, rfl⟩
  rw [hL] at cA hlen hbd hR
  obtain ⟨z, hzz⟩ : ∃ z, sizeU c.unit = z := ⟨_, rfl⟩
  rw [hzz] at cZ hB hz
  obtain ⟨dv, hdv⟩ : ∃ d, dayC c n = d := ⟨_, rfl⟩
  rw [hdv] at cD hR
  rw [← shq_shF, shq] at cS cD
  clear hL hzz hdv
  go_enter Tryz.func50, Tryz.ntmps50
  go_wp2_with fail
  go_region_held3 (fun w' => LrS w c w') (first | with_reducible exact HS0.out | with_reducible assumption)
    (first
      | (go_at_call 29; refine (cS.out _ (by assumption)).mono ?_; rintro e w' ⟨rfl, hS⟩)
      | (go_at_call 100; refine (cD.out _ (by assumption)).mono ?_; rintro e w' ⟨rfl, hS⟩))
  cases dv
  · have hfin : Hid (∃ v, (Value.slice none 0 0) = v ∧ w'.ownsRow w.heap.size 3 1 v (rofL c n).length (ints (rofL c n)) ∧ Below w.heap.size w w') := ⟨_, rfl, by rw [hR.out, if_neg (by simp)]; exact World.ownsRow_nil _ _ _ _, hS.2.2.1⟩
    clear hS
    go_wp2
    go_ret
    obtain ⟨v, rfl, h⟩ := hfin.out
    exact ⟨_, rfl, h⟩
  · have HS : Hid (LrS w c w') := by show LrS w c w'; assumption
    have s2 : w'.cell? ⟨w.heap.size, 2, none⟩ = some (.int .u64 (c.m 2 : Nat)) := HS.out.2.1.at 2 rfl
    have s1 : w'.cell? ⟨w.heap.size, 1, none⟩ = some (.int .u64 (c.m 1 : Nat)) := HS.out.2.1.at 1 rfl
    have s0 : w'.cell? ⟨w.heap.size, 0, none⟩ = some (.int .u64 (c.m 0 : Nat)) := HS.out.2.1.at 0 rfl
    rw [if_pos rfl] at hR
    clear cS cD hc
    rename_i hSa hSb hSc
    clear hSc hS hSb
    go_wp2_with fail
    refine (cA.out _).mono ?_
    rintro e w2 ⟨a, m, cap, rfl, hm, hsl, -, hB2⟩
    obtain rfl := hm.out
    have HS2 := hid (HS.out.keep hB2)
    have Hsl := hid hsl
    have hB02 : Hid (Below w.heap.size w w2) := HS.out.2.2.1.trans (hB2.mono (Nat.le_of_lt HS.out.2.2.2))
    clear hsl hm hB2 s0 s1 s2
    go_wp2_with fail
    go_loopw [6, 7, 8] (fun v i _ wr => ∃ (k q cq : Nat) (aq : Option Addr), i = .int .i64 k ∧ k ≤ L.length ∧ v = .slice aq q cq ∧ q ≤ k ∧ Hid (q = ((L.take k).filter (rofB c n)).length) ∧ wr.ownsRow w2.heap.size 3 1 (.slice aq q cq) q (ints ((L.take k).filter (rofB c n))) ∧ Below w2.heap.size w2 wr) (fun _ i _ _ => L.length - (intOf i).toNat)
    case atStart => exact ⟨0, 0, 0, none, rfl, by omega, rfl, by omega, (rfl : (0 : Nat) = 0), World.ownsRow_nil _ _ _ _, Below.refl _ _⟩
    case round =>
      obtain ⟨k, q, cq, aq, rfl, hk, rfl, hqk, Hq, hown, hB9⟩ := hrel
      by_cases hlt : k < L.length
      · obtain ⟨bL, oL, rfl, hbL, hcL⟩ := Hsl.out.atInt hlt
        have es := (hB9.cell (p := ⟨bL, oL + k, none⟩) hbL).trans (hcL k hlt)
        have fx := hbd.out _ (List.getElem_mem hlt)
        have Hsn := hid (filter_snoc (p := rofB c n) hlt)
        obtain ⟨x, hx⟩ : ∃ x, L[k] = x := ⟨_, rfl⟩
        rw [hx] at es fx Hsn
        obtain ⟨fx1, fx2⟩ := fx
        have hp := hB.out x
        obtain ⟨-, -, -, t3, t4⟩ := (HS2.out.2.1.below hB9 HS2.out.2.2.2).tail
        have t0 := (HS2.out.2.1.below hB9 HS2.out.2.2.2).tail.1
        have t1 := (HS2.out.2.1.below hB9 HS2.out.2.2.2).tail.2.1
        have t2 := (HS2.out.2.1.below hB9 HS2.out.2.2.2).tail.2.2.1
        have Hown := hid hown
        have HB := hid hB9
        have hbs : w2.heap.size ≤ wr.heap.size := hB9.size
        rw [betB] at hp
        have Hp := hid hp
        clear hcL hx hown hB9 hp
        by_cases c1 : c.fr ≤ 86400 * n + x
        · by_cases c2 : 86400 * n + x ≤ c.un
          · have Hp2 : Hid (rofB c n x = (decide (z = 0) || onB c.unit c.step c.anchor (86400 * n + x))) := by show _ = _; rw [Hp.out, decide_eq_true c1, decide_eq_true c2]; rfl
            go_wp2_with fail
            refine (cZ.out _).mono ?_
            rintro e w3 ⟨rfl, rfl⟩
            rcases hz with hz | hz
            · have hz0 : (z == 0) = false := by rw [beq_eq_false_iff_ne]; omega
              have cO1 := hid (cO.out (86400 * n + x) wr)
              obtain ⟨on, hon⟩ : ∃ on, onB c.unit c.step c.anchor (86400 * n + x) = on := ⟨_, rfl⟩
              have Hpx : Hid (rofB c n x = on) := by show _ = _; rw [Hp2.out, decide_eq_false (by omega), hon]; rfl
              rw [hon] at cO1
              clear hon
              go_wp2_with fail
              refine cO1.out.mono ?_
              rintro e w3 ⟨rfl, rfl⟩
              cases on
              · have hq1 : Hid (q = ((L.take (k + 1)).filter (rofB c n)).length) := by show q = _; rw [Hsn.out, Hpx.out]; simpa using Hq.out
                have ho1 : Hid (wr.ownsRow w2.heap.size 3 1 (.slice aq q cq) q (ints ((L.take (k + 1)).filter (rofB c n)))) := by show World.ownsRow _ _ _ _ _ _ _; rw [Hsn.out, Hpx.out]; simpa using Hown.out
                go_wp2
                exact ⟨⟨k + 1, q, cq, aq, by go_num, by omega, rfl, by omega, hq1, ho1.out, HB.out⟩, by simp [intOf]; omega⟩
              · go_wp2_with (at_builtin; refine app1 eInt (.tmp 60) (.tmp 65) rfl rfl rfl rfl rfl Hown.out rfl (by omega) (by omega) hbs ?_)
                intro a' cap' w4 hown2 hg2 hb2 hf2
                have hq1 : Hid (q + 1 = ((L.take (k + 1)).filter (rofB c n)).length) := by show q + 1 = _; rw [Hsn.out, Hpx.out, List.length_append, ← Hq.out]; rfl
                have ho1 : Hid (w4.ownsRow w2.heap.size 3 1 (.slice a' (q + 1) cap') (q + 1) (ints ((L.take (k + 1)).filter (rofB c n)))) := by
                  show World.ownsRow _ _ _ _ _ _ _
                  rw [Hsn.out, Hpx.out, if_pos rfl, ints_append, ints_one]; exact hown2
                have HB4 : Hid (Below w2.heap.size w2 w4) := HB.out.trans hb2
                clear hown2 hg2 hb2 hf2
                go_wp2
                exact ⟨⟨k + 1, q + 1, cap', a', by go_num, by omega, rfl, by omega, hq1, ho1.out, HB4.out⟩, by simp [intOf]; omega⟩
            · have hz0 : (z == 0) = true := by rw [hz]; rfl
              have Hpx : Hid (rofB c n x = true) := by show _ = _; rw [Hp2.out, decide_eq_true hz]; rfl
              clear hz
              go_wp2_with (at_builtin; refine app1 eInt (.tmp 60) (.tmp 65) rfl rfl rfl rfl rfl Hown.out rfl (by omega) (by omega) hbs ?_)
              intro a' cap' w4 hown2 hg2 hb2 hf2
              have hq1 : Hid (q + 1 = ((L.take (k + 1)).filter (rofB c n)).length) := by show q + 1 = _; rw [Hsn.out, Hpx.out, List.length_append, ← Hq.out]; rfl
              have ho1 : Hid (w4.ownsRow w2.heap.size 3 1 (.slice a' (q + 1) cap') (q + 1) (ints ((L.take (k + 1)).filter (rofB c n)))) := by
                show World.ownsRow _ _ _ _ _ _ _
                rw [Hsn.out, Hpx.out, if_pos rfl, ints_append, ints_one]; exact hown2
              have HB4 : Hid (Below w2.heap.size w2 w4) := HB.out.trans hb2
              clear hown2 hg2 hb2 hf2
              go_wp2
              exact ⟨⟨k + 1, q + 1, cap', a', by go_num, by omega, rfl, by omega, hq1, ho1.out, HB4.out⟩, by simp [intOf]; omega⟩
          · have Hpx : Hid (rofB c n x = false) := by show _ = _; rw [Hp.out, decide_eq_false c2]; simp
            have hq1 : Hid (q = ((L.take (k + 1)).filter (rofB c n)).length) := by show q = _; rw [Hsn.out, Hpx.out]; simpa using Hq.out
            have ho1 : Hid (wr.ownsRow w2.heap.size 3 1 (.slice aq q cq) q (ints ((L.take (k + 1)).filter (rofB c n)))) := by show World.ownsRow _ _ _ _ _ _ _; rw [Hsn.out, Hpx.out]; simpa using Hown.out
            go_wp2
            exact ⟨⟨k + 1, q, cq, aq, by go_num, by omega, rfl, by omega, hq1, ho1.out, HB.out⟩, by simp [intOf]; omega⟩
        · have Hpx : Hid (rofB c n x = false) := by show _ = _; rw [Hp.out, decide_eq_false c1]; simp
          have hq1 : Hid (q = ((L.take (k + 1)).filter (rofB c n)).length) := by show q = _; rw [Hsn.out, Hpx.out]; simpa using Hq.out
          have ho1 : Hid (wr.ownsRow w2.heap.size 3 1 (.slice aq q cq) q (ints ((L.take (k + 1)).filter (rofB c n)))) := by show World.ownsRow _ _ _ _ _ _ _; rw [Hsn.out, Hpx.out]; simpa using Hown.out
          go_wp2
          exact ⟨⟨k + 1, q, cq, aq, by go_num, by omega, rfl, by omega, hq1, ho1.out, HB.out⟩, by simp [intOf]; omega⟩
      · obtain rfl : k = L.length := by omega
        rw [List.take_length] at Hq hown
        rw [← hR.out] at Hq hown
        have ho1 := hid hown
        clear hown
        go_wp2
        go_ret
        exact ⟨_, rfl, by rw [← Hq.out]; exact owns_base ho1.out hB02.out.size, hB02.out.trans (hB9.mono hB02.out.size)⟩
/-- the seconds of clauses, one behind the other -/
def rofA (l : List Cl) (n : Int) : List Int := l.flatMap fun c => rofL c n
theorem rofA_snoc (l : List Cl) (n : Int) {k : Nat} (h : k < l.length) : rofA (l.take (k + 1)) n = rofA (l.take k) n ++ rofL l[k] n := by
  rw [rofA, take_snoc l k h, List.flatMap_append, rofA]; simp
theorem rofA_len (l : List Cl) (n : Int) : (rofA l n).length ≤ 86400 * l.length := by
  induction l with
  | nil => simp [rofA]
  | cons c l ih => 
    have e : rofA (c :: l) n = rofL c n ++ rofA l n := by simp [rofA]
    rw [e, List.length_append, List.length_cons]
    have := rofL_len c n
    omega
theorem rofA_day {l : List Cl} (hok : ∀ c ∈ l, c.Ok) {n : Int} (h0 : 0 ≤ n) (h1 : n < 146097) : secL (memD (rofA l n)) = secL (dayQ l n) := by
  rw [secL, secL]
  refine sel_congr fun k hk => ?_
  rw [memD, dayQ, Bool.eq_iff_iff, decide_eq_true_eq, List.any_eq_true, rofA, List.mem_flatMap]
  constructor
  · rintro ⟨c, hc, h⟩
    exact ⟨c, hc, (rofL_mem (hok c hc) h0 h1 hk).1 h⟩
  · rintro ⟨c, hc, h⟩
    exact ⟨c, hc, (rofL_mem (hok c hc) h0 h1 hk).2 h⟩
theorem ints_one1 (l : List Int) : ∀ u ∈ ints l, u.oneCell' = true := by
  intro u hu
  simp only [ints, List.mem_map] at hu
  obtain ⟨_, _, rfl⟩ := hu; rfl
set_option maxRecDepth 100000 in
set_option maxHeartbeats 3200000 in
theorem RLapAll16_any (a : Option Addr) (cap : Nat) (l : List Cl) (n : Int) (w : World) (hl : l.length ≤ 1000) (hs : Sl w a (cls l)) (hok : ∀ c ∈ l, c.Ok) (h0 : 0 ≤ n) (h1 : n < 146097) :
    Calls Tryz.prog 26 #[.slice a l.length cap, .int .i64 n] w fun e w' => ∃ v, e = .returned v ∧ w'.ownsRow w.heap.size 3 1 v (secL (dayQ l n)).length (ints (secL (dayQ l n))) ∧ Below w.heap.size w w' := by
  have cR := hid (fun (c : Cl) (hc : c.Ok) W => own_ret (RLap16_any c n W hc h0 h1))
  have cF := hid (fun a cap (L : List Int) W hl hs => ROf15_any a cap L W hl hs)
  have hE := hid (rofA_day hok h0 h1)
  have hlen := rofA_len l n
  have Hok := hid hok
  have Hs := hid hs
  clear hok hs
  go_enter Tryz.func26, Tryz.ntmps26
  go_wp2_with fail
  go_loopw [5, 6] (fun v i wr => ∃ (k q cq : Nat) (aq : Option Addr), i = .int .i64 k ∧ k ≤ l.length ∧ v = .slice aq q cq ∧ q ≤ 86400 * k ∧ Hid (q = (rofA (l.take k) n).length) ∧ wr.ownsRow w.heap.size 3 1 (.slice aq q cq) q (ints (rofA (l.take k) n)) ∧ Below w.heap.size w wr) (fun _ i _ => l.length - (intOf i).toNat)
  case atStart => exact ⟨0, 0, 0, none, rfl, by omega, rfl, by omega, (rfl : (0 : Nat) = 0), World.ownsRow_nil _ _ _ _, Below.refl _ _⟩
  case round =>
    obtain ⟨k, q, cq, aq, rfl, hk, rfl, hqk, Hq, hown, hB9⟩ := hrel
    by_cases hlt : k < l.length
    · obtain ⟨b, off, rfl, hbk, hr⟩ := Hs.out.atCl hlt
      have hr' := range_below hr hB9 hbk
      have Hsn := hid (rofA_snoc l n hlt)
      have hck := Hok.out _ (List.getElem_mem hlt)
      have hlk := rofL_len l[k] n
      obtain ⟨c, hc⟩ : ∃ c, l[k] = c := ⟨_, rfl⟩
      rw [hc] at hr' Hsn hck hlk
      have le := ld_at hr'
      have c1 := hid (cR.out c hck wr)
      have Hown := hid hown
      have HB := hid hB9
      have hbs : w.heap.size ≤ wr.heap.size := hB9.size
      obtain ⟨R, hR⟩ : ∃ R, rofL c n = R := ⟨_, rfl⟩
      rw [hR] at c1 Hsn hlk
      clear hr hr' hc hck hown hB9 hR
      go_wp2_with fail
      refine c1.out.mono ?_
      rintro e w2 ⟨a2, m, cap2, rfl, hm, hsl, ho2, hB2⟩
      obtain rfl := hm.out
      have Hl1 : Hid ((ints R).length = R.length * 1) := by show _ = _; rw [ints_length, Nat.mul_one]
      have Hsl := hid hsl
      have Hnone := hid (owns_none ho2)
      have Hown2 := hid (owns_below Hown.out hB2 (Nat.le_refl _))
      have HB2 := hid (HB.out.trans (hB2.mono hbs))
      have hbs2 : w.heap.size ≤ w2.heap.size := Nat.le_trans hbs hB2.size
      clear hsl ho2 hB2 hm le
      go_wp2_with (at_builtin; refine appN eInt (.tmp 13) (.tmp 19) rfl rfl rfl rfl Hown2.out Hl1.out Hsl.out Hnone.out (ints_one1 _) (by omega) (by omega) hbs2 ?_)
      intro a' cap' w4 hown2 hg2 hb2 hf2
      have hq1 : Hid (q + R.length = (rofA (l.take (k + 1)) n).length) := by show _ = _; rw [Hsn.out, List.length_append, ← Hq.out]
      have ho1 : Hid (w4.ownsRow w.heap.size 3 1 (.slice a' (q + R.length) cap') (q + R.length) (ints (rofA (l.take (k + 1)) n))) := by
        show World.ownsRow _ _ _ _ _ _ _
        rw [Hsn.out, ints_append]; exact hown2
      have HB4 : Hid (Below w.heap.size w w4) := HB2.out.trans hb2
      clear hown2 hg2 hb2 hf2
      go_wp2
      exact ⟨⟨k + 1, q + R.length, cap', a', by go_num, by omega, rfl, by omega, hq1, ho1.out, HB4.out⟩, by simp [intOf]; omega⟩
    · obtain rfl : k = l.length := by omega
      rw [List.take_length] at Hq hown
      have c2 := hid (cF.out aq cq (rofA l n) wr (by omega) (owns_sl hown))
      rw [hE.out, ← Hq.out] at c2
      have HB := hid hB9
      clear hown hB9
      go_wp2_with fail
      refine c2.out.mono ?_
      rintro e w4 ⟨v, rfl, ho, hB4⟩
      have ho1 := hid (owns_base ho HB.out.size)
      have HB4 := hid (HB.out.trans (hB4.mono HB.out.size))
      clear ho hB4
      go_wp2
      go_ret
      exact ⟨_, rfl, ho1.out, HB4.out⟩
end Go.Proofs.YtcbanlgnanihhaaGreatDoor
namespace Go.Proofs.YtcbanlgnanihhaaGreatDoor
open Go.RowKit Go.Maps
set_option linter.unusedVariables false

theorem at_more {cs : List Cl} {n : Int} {ws ws2 : Nat → Bool} {m m2 : Nat} (h1 : AtStep cs n ws m ws2 m2) : m2 ≤ m + 1 ∧ m ≤ m2 := by
  rcases h1 with ⟨-, -, e⟩ | ⟨-, -, -, e⟩ | ⟨-, -, -, e | e⟩
  · omega
  · rw [e]; split <;> omega
  · omega
  · omega
/-- the roll of a set, on the way: few discs are made -/
def RdS (w : World) (l : List Cl) (br bk : Nat) (bps : List Nat) (k : Nat) (wr : World) : Prop := ∃ F ws m, RollS wr l br bk bps F ws m ∧ m ≤ k ∧ Below w.heap.size w wr
theorem RdS.below {w wr w' : World} {l : List Cl} {br bk : Nat} {bps : List Nat} {k : Nat} (h : RdS w l br bk bps k wr) (hB : Below wr.heap.size wr w') : RdS w l br bk bps k w' := by
  obtain ⟨F, ws, m, h1, h2, h3⟩ := h
  exact ⟨F, ws, m, h1.below hB, h2, h3.trans (hB.mono h3.size)⟩
end Go.Proofs.YtcbanlgnanihhaaGreatDoor
namespace Go.Proofs.YtcbanlgnanihhaaGreatDoor
open Go.RowKit Go.Maps
set_option linter.unusedVariables false

/-- a clause of the whole window, without a step below a day -/
def knCl (c : Cl) : Cl := { c with fr := 0, un := 12622780799, step := if c.unit < 3 then 1 else c.step }
theorem kn_ok {c : Cl} (h : c.Ok) : (knCl c).Ok := by
  refine { h with fr := (show i64B 0 from ⟨by decide, by decide⟩), un := (show i64B 12622780799 from ⟨by decide, by decide⟩), step := ?_ }
  show i64B (if c.unit < 3 then 1 else c.step)
  split
  · exact ⟨by decide, by decide⟩
  · exact h.step
theorem kn_may {c : Cl} (h : mayC c = true) : mayC (knCl c) = true := by
  have hs := (may_ord h).2.1
  rw [mayC, Bool.and_eq_true, Bool.and_eq_true, Bool.and_eq_true, Bool.and_eq_true, Bool.and_eq_true, decide_eq_true_eq] at h
  obtain ⟨h1, h2, h3, h4, h5, h6⟩ := h
  rw [mayC, Bool.and_eq_true, Bool.and_eq_true, Bool.and_eq_true, Bool.and_eq_true, Bool.and_eq_true, decide_eq_true_eq]
  refine ⟨h1, h2, h3, h4, ?_, h6⟩
  show 1 ≤ if c.unit < 3 then 1 else c.step
  split <;> omega
theorem size_lt {u : Int} (h : 0 < sizeU u) : u < 3 := by
  rcases unit_cases u with rfl | rfl | rfl | ⟨-, -, -, h4⟩
  · decide
  · decide
  · decide
  · omega
theorem kn_whole {l : List Cl} {n : Int} (h0 : 0 ≤ n) (h1 : n < 146097) : wholeB (l.map knCl) n = true := whole_set (fun c hc => by
  obtain ⟨d, -, rfl⟩ := List.mem_map.1 hc
  refine ⟨rfl, rfl, fun hz => ?_⟩
  show (if d.unit < 3 then 1 else d.step) ≤ 1
  have hd : d.unit < 3 := size_lt hz
  rw [if_pos hd]; omega) h0 h1
theorem kn_step (c : Cl) : stpB (knCl c) = false := by
  rw [stpB]
  show (mayC (knCl c) && (decide (c.unit < 3) && decide (1 < if c.unit < 3 then 1 else c.step))) = false
  by_cases h : c.unit < 3
  · rw [if_pos h]; simp
  · rw [decide_eq_false h]; simp
theorem kn_steps (l : List Cl) : (l.map knCl).countP stpB = 0 := by
  rw [List.countP_eq_zero]
  intro c hc
  obtain ⟨d, -, rfl⟩ := List.mem_map.1 hc
  rw [kn_step]; simp
theorem kn_fault {l : List Cl} (h : mayL l = true) : faultL (l.map knCl) = 0 := by
  rw [mayL, Bool.and_eq_true, decide_eq_true_eq, List.all_eq_true] at h
  rw [faultL, if_neg (by rw [List.length_map]; omega), if_pos]
  rw [List.all_eq_true]
  intro c hc
  obtain ⟨d, hd, rfl⟩ := List.mem_map.1 hc
  exact kn_may (h.2 d hd)
/-- the count of the clauses that have a step below a day, of a set that may be -/
theorem may_steps {l : List Cl} (h : mayL l = true) {c : Cl} (hc : c ∈ l) : stpB c = (decide (c.unit < 3) && decide (1 < c.step)) := by
  rw [mayL, Bool.and_eq_true, List.all_eq_true] at h
  rw [stpB, h.2 c hc, Bool.true_and]
/-! ### how many whole sets are made -/
theorem act_pow {cs : List Cl} {n : Int} (h8 : cs.length ≤ 8) : actM cs n < 2 ^ cs.length := by
  refine Nat.lt_pow_two_of_testBit _ fun i hi => ?_
  rw [actM, mk_test, decide_eq_false (show ¬ i < cs.length by omega), Bool.false_and, Bool.and_false]
theorem cntW_add {ws : Nat → Bool} {a : Nat} (ha : a < 256) : cntW (fun i => ws i || decide (i = a)) = if ws a then cntW ws else cntW ws + 1 := by
  have key : ∀ (l : List Nat), l.Nodup → a ∈ l → l.countP (fun i => ws i || decide (i = a)) = if ws a then l.countP ws else l.countP ws + 1 := by
    intro l
    induction l with
    | nil => intro _ h; cases h
    | cons x l ih =>
      intro hn hm
      obtain ⟨hx, hn⟩ := List.nodup_cons.1 hn
      rw [List.countP_cons, List.countP_cons]
      by_cases e : x = a
      · subst e
        have hno : l.countP (fun i => ws i || decide (i = x)) = l.countP ws := List.countP_congr fun i hi => by
          have : i ≠ x := fun e => hx (e ▸ hi)
          simp [this]
        rw [hno]
        cases ws x <;> simp
      · have hm2 : a ∈ l := by
          rcases List.mem_cons.1 hm with h | h
          · exact absurd h.symm e
          · exact h
        rw [ih hn hm2]
        have e1 : decide (x = a) = false := by simp [e]
        cases ws a <;> cases ws x <;> simp [e1] <;> omega
  exact key _ List.nodup_range (List.mem_range.2 ha)
theorem count_below (M N : Nat) : (List.range M).countP (fun j => decide (j < N)) ≤ N := by
  induction M with
  | zero => simp
  | succ M ih =>
    by_cases h : M < N
    · have h1 : (List.range (M + 1)).countP (fun j => decide (j < N)) ≤ M + 1 := Nat.le_trans List.countP_le_length (by rw [List.length_range]; exact Nat.le_refl _)
      omega
    · rw [List.range_succ, List.countP_append, List.countP_cons, List.countP_nil, decide_eq_false h]
      simpa using ih
theorem cntW_le {ws : Nat → Bool} {N : Nat} (h : ∀ j, ws j = true → j < N) : cntW ws ≤ N :=
  Nat.le_trans (List.countP_mono_left fun j _ hj => by simpa using h j hj) (count_below 256 N)
theorem cntW_none : cntW (fun _ => false) = 0 := by rw [cntW, List.countP_eq_zero]; simp
/-- what days do to such a roll -/
structure KnI (cs : List Cl) (n0 : Int) (k : Nat) (ws : Nat → Bool) (m : Nat) : Prop where
  cnt : m = cntW ws
  low : ∀ j, ws j = true → j < 2 ^ cs.length
  day : 0 < k → actM cs n0 = 0 ∨ ws (actM cs n0) = true
theorem KnI.le {cs : List Cl} {n0 : Int} {k : Nat} {ws : Nat → Bool} {m : Nat} (h : KnI cs n0 k ws m) : m ≤ 2 ^ cs.length := by rw [h.cnt]; exact cntW_le h.low
theorem KnI.step {cs : List Cl} {n0 n : Int} {k : Nat} {ws ws' : Nat → Bool} {m m' : Nat} (h : KnI cs n0 k ws m) (h8 : cs.length ≤ 8) (hw : wholeB cs n = true) (hs : AtStep cs n ws m ws' m') (hk : k = 0 → n = n0) : KnI cs n0 (k + 1) ws' m' := by
  have ha : actM cs n < 2 ^ cs.length := act_pow h8
  have ha2 : actM cs n < 256 := actM_lt8 h8
  rcases hs with ⟨a, rfl, rfl⟩ | ⟨a, -, rfl, rfl⟩ | ⟨-, v, -⟩
  · refine ⟨h.cnt, h.low, fun _ => ?_⟩
    by_cases hk0 : k = 0
    · rw [← hk hk0]; exact .inl a
    · exact h.day (by omega)
  · refine ⟨?_, fun j hj => ?_, fun _ => ?_⟩
    · rw [cntW_add ha2, h.cnt]
    · rw [Bool.or_eq_true, decide_eq_true_eq] at hj
      rcases hj with hj | hj
      · exact h.low j hj
      · rw [hj]; exact ha
    · by_cases hk0 : k = 0
      · rw [← hk hk0]; exact .inr (by simp)
      · exact (h.day (by omega)).imp id (fun h => by rw [h]; rfl)
  · rw [hw] at v; cases v
/-- a day that was asked for makes none -/
theorem KnI.same {cs : List Cl} {n0 : Int} {k : Nat} {ws ws' : Nat → Bool} {m m' : Nat} (h : KnI cs n0 k ws m) (hk : 0 < k) (hw : wholeB cs n0 = true) (hs : AtStep cs n0 ws m ws' m') : m' = m ∧ KnI cs n0 k ws' m' := by
  rcases hs with ⟨a, rfl, rfl⟩ | ⟨a, -, rfl, rfl⟩ | ⟨-, v, -⟩
  · exact ⟨rfl, h⟩
  · rcases h.day hk with h1 | h1
    · exact absurd h1 a
    · rw [if_pos h1]
      refine ⟨rfl, ?_⟩
      have e : (fun i => ws i || decide (i = actM cs n0)) = ws := by
        funext i
        by_cases e : i = actM cs n0
        · rw [e, h1]; rfl
        · rw [decide_eq_false e, Bool.or_false]
      rw [e]; exact h
  · rw [hw] at v; cases v
end Go.Proofs.YtcbanlgnanihhaaGreatDoor

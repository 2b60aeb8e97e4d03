/-
  feriaref16.Of and All: the seconds of a day that have a clause, and those that have one of clauses.
  ferialaw18.RollDays answers true for every clauses and days.
  The instants of a set between two instants, day by day.
  How many instants of a set are between two instants, in plain words.
  The law of a range over a function that has a state of its own, once more: the teller's blocks do not hold the loop's.
-/
import Derived.Test.YtchceegpbfecaaaGreatDoorQ972e12
import Derived.Test.YtchceegpbfecaaaGreatDoorQf3ecab
import Derived.Test.YtchceegpbfecaaaGreatDoorQf887a5
import Derived.Test.YtchceegpbfecaaaGreatDoorQ463eb9
namespace Go.Proofs.YtchceegpbfecaaaGreatDoor
set_option linter.unusedVariables false
section
open Go.RowKit

def rofB (c : Cl) (n x : Int) : Bool := betB c.fr c.un (86400 * n + x) && (decide (sizeU c.unit = 0) || onB c.unit c.step c.anchor (86400 * n + x))
def rofL (c : Cl) (n : Int) : List Int := if dayC c n then (secsOf (c.m 2) (c.m 1) (c.m 0)).filter (rofB c n) else []
theorem secsOf_count' (hs ms ss : Nat) : (secsOf hs ms ss).length ≤ 86400 := by
  have key : ∀ (L : List Int), L.Pairwise (· < ·) → (∀ y ∈ L, 0 ≤ y) → ∀ i (hi : i < L.length), (i : Int) ≤ L[i] := fun L hr h0 i => by
    induction i with
    | zero => exact fun hi => h0 _ (List.getElem_mem hi)
    | succ i ih =>
      intro hi
      have h1 := ih (by omega)
      have h2 := List.pairwise_iff_getElem.mp hr i (i + 1) (by omega) hi (by omega)
      omega
  rcases Nat.eq_zero_or_pos (secsOf hs ms ss).length with h | h
  · omega
  · have h1 := key _ (secsOf_rising hs ms ss) (fun y hy => (secsOf_bd hs ms ss hy).1) ((secsOf hs ms ss).length - 1) (by omega)
    have h2 := secsOf_bd hs ms ss (List.getElem_mem (l := secsOf hs ms ss) (n := (secsOf hs ms ss).length - 1) (by omega))
    omega
theorem rofL_len (c : Cl) (n : Int) : (rofL c n).length ≤ 86400 := by
  rw [rofL]; split
  · exact zI (List.length_filter_le _ _) (secsOf_count' _ _ _)
  · simp
theorem rofL_mem {c : Cl} (hc : c.Ok) {n : Int} (h0 : 0 ≤ n) (h1 : n < 146097) {k : Nat} (hk : k < 86400) : (k : Int) ∈ rofL c n ↔ hasC c (86400 * n + k) = true := by
  have hw : winB (86400 * n + k) = true := by rw [winB, decide_eq_true_eq]; omega
  have e1 : (86400 * n + (k : Int)) % 86400 = k := by omega
  have e2 : (86400 * n + (k : Int)) / 86400 = n := by omega
  have hs := secsOf_mem (hc.m 2 (by omega)) (hc.m 1 (by omega)) (hc.m 0 (by omega)) (k := (k : Int)) (by omega) (by omega)
  rw [rofL, hasC, hw, e1, e2, Bool.true_and]
  cases hd : dayC c n
  · simp
  · have hd' := hd
    rw [dayC, Bool.and_eq_true, Bool.and_eq_true] at hd'
    obtain ⟨hm, -, hon⟩ := hd'
    obtain ⟨ho, hst, hu, ha⟩ := may_ord hm
    rw [if_pos rfl, List.mem_filter, hs, hm, rofB, Bool.true_and, Bool.and_true, Bool.and_eq_true, Bool.and_eq_true, Bool.and_eq_true, Bool.or_eq_true, decide_eq_true_eq]
    constructor
    · rintro ⟨g1, g2, g3⟩
      refine ⟨g2, g1, ?_⟩
      rcases g3 with g3 | g3
      · have := dayOn_on hu ha hst (t := 86400 * n + k) (by omega) (by omega) g3
        rw [e2] at this
        rw [← this]; exact hon
      · exact g3
    · rintro ⟨g1, g2, g3⟩
      exact ⟨g2, g1, .inr g3⟩
attribute [local go_sem ↓] loadAt_cl
abbrev LrS (w : World) (c : Cl) (W : World) : Prop := (loadClS (.pointer (some ⟨w.heap.size, 0, none⟩))).run Tryz.prog W = .ok (clv c) W ∧ ClB W w.heap.size c ∧ Below w.heap.size w W ∧ w.heap.size < W.heap.size
theorem LrS.of {w W : World} {c : Cl} (h : ClB W w.heap.size c) (hb : Below w.heap.size w W) (hs : w.heap.size < W.heap.size) : LrS w c W := ⟨h.ld, h, hb, hs⟩
theorem LrS.keep {w W W' : World} {c : Cl} (h : LrS w c W) (hb : Below W.heap.size W W') : LrS w c W' :=
  LrS.of (h.2.1.below hb h.2.2.2) (h.2.2.1.trans (hb.mono (Nat.le_of_lt h.2.2.2))) (zH h.2.2.2 hb.size)
theorem filter_snoc {p : Int → Bool} {l : List Int} {k : Nat} (hk : k < l.length) : (l.take (k + 1)).filter p = (l.take k).filter p ++ if p l[k] then [l[k]] else [] := by
  rw [take_snoc l k hk, List.filter_append]
  cases h : p l[k] <;> simp [h]

set_option maxRecDepth 100000 in
set_option maxHeartbeats 3200000 in
theorem RLap16_any (c : Cl) (n : Int) (w : World) (hc : c.Ok) (h0 : 0 ≤ n) (h1 : n < 146097) :
    Calls Tryz.prog 55 #[clv c, .int .i64 n] w fun e w' => ∃ v, e = .returned v ∧ w'.ownsRow w.heap.size 3 1 v (rofL c n).length (ints (rofL c n)) ∧ Below w.heap.size w w' := by
  have HS0 : Hid (LrS w c (w.alloc (.cells (clList c).toArray 43)).drew) := (LrS.of (clB_new w c _) (below_new (Below.refl _ _) (zG _)) (by simp)).keep (Below.refl _ _).drew
  have cS := hid (fun W (h : LrS w c W) => keep_of' (RShape_any n W h0 h1) (fun _ => h.keep))
  have cD := hid (fun W (h : LrS w c W) => keep_of' (RDay13_any c n W hc h0 h1) (fun _ => h.keep))
  have cA := hid (fun W => own_ret (RAll_any (c.m 2) (c.m 1) (c.m 0) W (hc.m 2 (by omega)) (hc.m 1 (by omega)) (hc.m 0 (by omega))))
  have cZ := hid (fun W => RSize_any c.unit W)
  have cO := hid (fun t W => RUOn_any c.unit c.step c.anchor t W hc.step)
  have hz := sizeU_cases c.unit
  have hlen := secsOf_count' (c.m 2) (c.m 1) (c.m 0)
  have hbd := hid (fun x hx => secsOf_bd (c.m 2) (c.m 1) (c.m 0) (x := x) hx)
  have hR : Hid (rofL c n = if dayC c n then (secsOf (c.m 2) (c.m 1) (c.m 0)).filter (rofB c n) else []) := rfl
  have hB : Hid (∀ x, rofB c n x = (betB c.fr c.un (86400 * n + x) && (decide (sizeU c.unit = 0) || onB c.unit c.step c.anchor (86400 * n + x)))) := fun x => rfl
  rw [← secsOf] at cA
  obtain ⟨L, hL⟩ : ∃ L, secsOf (c.m 2) (c.m 1) (c.m 0) = L := ⟨_, rfl⟩
  rw [hL] at cA hlen hbd hR
  obtain ⟨z, hzz⟩ : ∃ z, sizeU c.unit = z := ⟨_, rfl⟩
  rw [hzz] at cZ hB hz
  obtain ⟨dv, hdv⟩ : ∃ d, dayC c n = d := ⟨_, rfl⟩
  rw [hdv] at cD hR
  rw [← shq_shF, shq] at cS cD
  clear hL hzz hdv
  go_enter Tryz.func55, Tryz.ntmps55
  go_wp2_with fail
  go_region_held3 (fun w' => LrS w c w') (first | with_reducible exact HS0.out | with_reducible assumption)
    (first
      | (go_at_call 98; refine (cS.out _ (by assumption)).mono ?_; rintro e w' ⟨rfl, hS⟩)
      | (go_at_call 97; refine (cD.out _ (by assumption)).mono ?_; rintro e w' ⟨rfl, hS⟩))
  cases dv
  · have hfin : Hid (∃ v, (Value.slice none 0 0) = v ∧ w'.ownsRow w.heap.size 3 1 v (rofL c n).length (ints (rofL c n)) ∧ Below w.heap.size w w') := ⟨_, rfl, by rw [hR.out, if_neg (by simp)]; exact World.ownsRow_nil _ _ _ _, hS.2.2.1⟩
    clear hS
    go_wp2
    go_ret
    obtain ⟨v, rfl, h⟩ := hfin.out
    exact ⟨_, rfl, h⟩
  · have HS : Hid (LrS w c w') := by show LrS w c w'; assumption
    have s2 : w'.cell? ⟨w.heap.size, 2, none⟩ = some (.int .u64 (c.m 2 : Nat)) := HS.out.2.1.at 2 rfl
    have s1 : w'.cell? ⟨w.heap.size, 1, none⟩ = some (.int .u64 (c.m 1 : Nat)) := HS.out.2.1.at 1 rfl
    have s0 : w'.cell? ⟨w.heap.size, 0, none⟩ = some (.int .u64 (c.m 0 : Nat)) := HS.out.2.1.at 0 rfl
    rw [if_pos rfl] at hR
    clear cS cD hc
    rename_i hSa hSb hSc
    clear hSc hS hSb
    go_wp2_with fail
    refine (cA.out _).mono ?_
    rintro e w2 ⟨a, m, cap, rfl, hm, hsl, -, hB2⟩
    obtain rfl := hm.out
    have HS2 := hid (HS.out.keep hB2)
    have Hsl := hid hsl
    have hB02 : Hid (Below w.heap.size w w2) := HS.out.2.2.1.trans (hB2.mono (Nat.le_of_lt HS.out.2.2.2))
    clear hsl hm hB2 s0 s1 s2
    go_wp2_with fail
    go_loopw [6, 7, 8] (fun v i _ wr => ∃ (k q cq : Nat) (aq : Option Addr), i = .int .i64 k ∧ k ≤ L.length ∧ v = .slice aq q cq ∧ q ≤ k ∧ Hid (q = ((L.take k).filter (rofB c n)).length) ∧ wr.ownsRow w2.heap.size 3 1 (.slice aq q cq) q (ints ((L.take k).filter (rofB c n))) ∧ Below w2.heap.size w2 wr) (fun _ i _ _ => L.length - (intOf i).toNat)
    case atStart => exact ⟨0, 0, 0, none, rfl, by omega, rfl, by omega, (rfl : (0 : Nat) = 0), World.ownsRow_nil _ _ _ _, Below.refl _ _⟩
    case round =>
      obtain ⟨k, q, cq, aq, rfl, hk, rfl, hqk, Hq, hown, hB9⟩ := hrel
      by_cases hlt : k < L.length
      · obtain ⟨bL, oL, rfl, hbL, hcL⟩ := Hsl.out.atInt hlt
        have es := (hB9.cell (p := ⟨bL, oL + k, none⟩) hbL).trans (hcL k hlt)
        have fx := hbd.out _ (List.getElem_mem hlt)
        have Hsn := hid (filter_snoc (p := rofB c n) hlt)
        obtain ⟨x, hx⟩ : ∃ x, L[k] = x := ⟨_, rfl⟩
        rw [hx] at es fx Hsn
        obtain ⟨fx1, fx2⟩ := fx
        have hp := hB.out x
        obtain ⟨-, -, -, t3, t4⟩ := (HS2.out.2.1.below hB9 HS2.out.2.2.2).tail
        have t0 := (HS2.out.2.1.below hB9 HS2.out.2.2.2).tail.1
        have t1 := (HS2.out.2.1.below hB9 HS2.out.2.2.2).tail.2.1
        have t2 := (HS2.out.2.1.below hB9 HS2.out.2.2.2).tail.2.2.1
        have Hown := hid hown
        have HB := hid hB9
        have hbs : w2.heap.size ≤ wr.heap.size := hB9.size
        rw [betB] at hp
        have Hp := hid hp
        clear hcL hx hown hB9 hp
        by_cases c1 : c.fr ≤ 86400 * n + x
        · by_cases c2 : 86400 * n + x ≤ c.un
          · have Hp2 : Hid (rofB c n x = (decide (z = 0) || onB c.unit c.step c.anchor (86400 * n + x))) := by show _ = _; rw [Hp.out, decide_eq_true c1, decide_eq_true c2]; rfl
            go_wp2_with fail
            refine (cZ.out _).mono ?_
            rintro e w3 ⟨rfl, rfl⟩
            rcases hz with hz | hz
            · have hz0 : (z == 0) = false := by rw [beq_eq_false_iff_ne]; omega
              have cO1 := hid (cO.out (86400 * n + x) wr)
              obtain ⟨on, hon⟩ : ∃ on, onB c.unit c.step c.anchor (86400 * n + x) = on := ⟨_, rfl⟩
              have Hpx : Hid (rofB c n x = on) := by show _ = _; rw [Hp2.out, decide_eq_false (by omega), hon]; rfl
              rw [hon] at cO1
              clear hon
              go_wp2_with fail
              refine cO1.out.mono ?_
              rintro e w3 ⟨rfl, rfl⟩
              cases on
              · have hq1 : Hid (q = ((L.take (k + 1)).filter (rofB c n)).length) := by show q = _; rw [Hsn.out, Hpx.out]; simpa using Hq.out
                have ho1 : Hid (wr.ownsRow w2.heap.size 3 1 (.slice aq q cq) q (ints ((L.take (k + 1)).filter (rofB c n)))) := by show World.ownsRow _ _ _ _ _ _ _; rw [Hsn.out, Hpx.out]; simpa using Hown.out
                go_wp2
                exact ⟨⟨k + 1, q, cq, aq, by go_num, by omega, rfl, by omega, hq1, ho1.out, HB.out⟩, by simp [intOf]; omega⟩
              · go_wp2_with (at_builtin; refine app1 eInt (.tmp 60) (.tmp 65) rfl rfl rfl rfl rfl Hown.out rfl (by omega) (by omega) hbs ?_)
                intro a' cap' w4 hown2 hg2 hb2 hf2
                have hq1 : Hid (q + 1 = ((L.take (k + 1)).filter (rofB c n)).length) := by show q + 1 = _; rw [Hsn.out, Hpx.out, List.length_append, ← Hq.out]; rfl
                have ho1 : Hid (w4.ownsRow w2.heap.size 3 1 (.slice a' (q + 1) cap') (q + 1) (ints ((L.take (k + 1)).filter (rofB c n)))) := by
                  show World.ownsRow _ _ _ _ _ _ _
                  rw [Hsn.out, Hpx.out, if_pos rfl, ints_append, ints_one]; exact hown2
                have HB4 : Hid (Below w2.heap.size w2 w4) := HB.out.trans hb2
                clear hown2 hg2 hb2 hf2
                go_wp2
                exact ⟨⟨k + 1, q + 1, cap', a', by go_num, by omega, rfl, by omega, hq1, ho1.out, HB4.out⟩, by simp [intOf]; omega⟩
            · have hz0 : (z == 0) = true := by rw [hz]; rfl
              have Hpx : Hid (rofB c n x = true) := by show _ = _; rw [Hp2.out, decide_eq_true hz]; rfl
              clear hz
              go_wp2_with (at_builtin; refine app1 eInt (.tmp 60) (.tmp 65) rfl rfl rfl rfl rfl Hown.out rfl (by omega) (by omega) hbs ?_)
              intro a' cap' w4 hown2 hg2 hb2 hf2
              have hq1 : Hid (q + 1 = ((L.take (k + 1)).filter (rofB c n)).length) := by show q + 1 = _; rw [Hsn.out, Hpx.out, List.length_append, ← Hq.out]; rfl
              have ho1 : Hid (w4.ownsRow w2.heap.size 3 1 (.slice a' (q + 1) cap') (q + 1) (ints ((L.take (k + 1)).filter (rofB c n)))) := by
                show World.ownsRow _ _ _ _ _ _ _
                rw [Hsn.out, Hpx.out, if_pos rfl, ints_append, ints_one]; exact hown2
              have HB4 : Hid (Below w2.heap.size w2 w4) := HB.out.trans hb2
              clear hown2 hg2 hb2 hf2
              go_wp2
              exact ⟨⟨k + 1, q + 1, cap', a', by go_num, by omega, rfl, by omega, hq1, ho1.out, HB4.out⟩, by simp [intOf]; omega⟩
          · have Hpx : Hid (rofB c n x = false) := by show _ = _; rw [Hp.out, decide_eq_false c2]; simp
            have hq1 : Hid (q = ((L.take (k + 1)).filter (rofB c n)).length) := by show q = _; rw [Hsn.out, Hpx.out]; simpa using Hq.out
            have ho1 : Hid (wr.ownsRow w2.heap.size 3 1 (.slice aq q cq) q (ints ((L.take (k + 1)).filter (rofB c n)))) := by show World.ownsRow _ _ _ _ _ _ _; rw [Hsn.out, Hpx.out]; simpa using Hown.out
            go_wp2
            exact ⟨⟨k + 1, q, cq, aq, by go_num, by omega, rfl, by omega, hq1, ho1.out, HB.out⟩, by simp [intOf]; omega⟩
        · have Hpx : Hid (rofB c n x = false) := by show _ = _; rw [Hp.out, decide_eq_false c1]; simp
          have hq1 : Hid (q = ((L.take (k + 1)).filter (rofB c n)).length) := by show q = _; rw [Hsn.out, Hpx.out]; simpa using Hq.out
          have ho1 : Hid (wr.ownsRow w2.heap.size 3 1 (.slice aq q cq) q (ints ((L.take (k + 1)).filter (rofB c n)))) := by show World.ownsRow _ _ _ _ _ _ _; rw [Hsn.out, Hpx.out]; simpa using Hown.out
          go_wp2
          exact ⟨⟨k + 1, q, cq, aq, by go_num, by omega, rfl, by omega, hq1, ho1.out, HB.out⟩, by simp [intOf]; omega⟩
      · obtain rfl : k = L.length := by omega
        rw [List.take_length] at Hq hown
        rw [← hR.out] at Hq hown
        have ho1 := hid hown
        clear hown
        go_wp2
        go_ret
        exact ⟨_, rfl, by rw [← Hq.out]; exact owns_base ho1.out hB02.out.size, hB02.out.trans (hB9.mono hB02.out.size)⟩
def rofA (l : List Cl) (n : Int) : List Int := l.flatMap fun c => rofL c n
theorem rofA_snoc (l : List Cl) (n : Int) {k : Nat} (h : k < l.length) : rofA (l.take (k + 1)) n = rofA (l.take k) n ++ rofL l[k] n := by
  rw [rofA, take_snoc l k h, List.flatMap_append, rofA]; simp
theorem rofA_len (l : List Cl) (n : Int) : (rofA l n).length ≤ 86400 * l.length := by
  induction l with
  | nil => simp [rofA]
  | cons c l ih => 
    have e : rofA (c :: l) n = rofL c n ++ rofA l n := by simp [rofA]
    rw [e, List.length_append, List.length_cons]
    have := rofL_len c n
    omega
theorem rofA_day {l : List Cl} (hok : ∀ c ∈ l, c.Ok) {n : Int} (h0 : 0 ≤ n) (h1 : n < 146097) : secL (memD (rofA l n)) = secL (dayQ l n) := by
  rw [secL, secL]
  refine sel_congr fun k hk => ?_
  rw [memD, dayQ, Bool.eq_iff_iff, decide_eq_true_eq, List.any_eq_true, rofA, List.mem_flatMap]
  constructor
  · rintro ⟨c, hc, h⟩
    exact ⟨c, hc, (rofL_mem (hok c hc) h0 h1 hk).1 h⟩
  · rintro ⟨c, hc, h⟩
    exact ⟨c, hc, (rofL_mem (hok c hc) h0 h1 hk).2 h⟩
theorem ints_one1 (l : List Int) : ∀ u ∈ ints l, u.oneCell' = true := by
  intro u hu
  simp only [ints, List.mem_map] at hu
  obtain ⟨_, _, rfl⟩ := hu; rfl
set_option maxRecDepth 100000 in
set_option maxHeartbeats 3200000 in
theorem RLapAll16_any (a : Option Addr) (cap : Nat) (l : List Cl) (n : Int) (w : World) (hl : l.length ≤ 1000) (hs : Sl w a (cls l)) (hok : ∀ c ∈ l, c.Ok) (h0 : 0 ≤ n) (h1 : n < 146097) :
    Calls Tryz.prog 28 #[.slice a l.length cap, .int .i64 n] w fun e w' => ∃ v, e = .returned v ∧ w'.ownsRow w.heap.size 3 1 v (secL (dayQ l n)).length (ints (secL (dayQ l n))) ∧ Below w.heap.size w w' := by
  have cR := hid (fun (c : Cl) (hc : c.Ok) W => own_ret (RLap16_any c n W hc h0 h1))
  have cF := hid (fun a cap (L : List Int) W hl hs => ROf15_any a cap L W hl hs)
  have hE := hid (rofA_day hok h0 h1)
  have hlen := rofA_len l n
  have Hok := hid hok
  have Hs := hid hs
  clear hok hs
  go_enter Tryz.func28, Tryz.ntmps28
  go_wp2_with fail
  go_loopw [5, 6] (fun v i wr => ∃ (k q cq : Nat) (aq : Option Addr), i = .int .i64 k ∧ k ≤ l.length ∧ v = .slice aq q cq ∧ q ≤ 86400 * k ∧ Hid (q = (rofA (l.take k) n).length) ∧ wr.ownsRow w.heap.size 3 1 (.slice aq q cq) q (ints (rofA (l.take k) n)) ∧ Below w.heap.size w wr) (fun _ i _ => l.length - (intOf i).toNat)
  case atStart => exact ⟨0, 0, 0, none, rfl, by omega, rfl, by omega, (rfl : (0 : Nat) = 0), World.ownsRow_nil _ _ _ _, Below.refl _ _⟩
  case round =>
    obtain ⟨k, q, cq, aq, rfl, hk, rfl, hqk, Hq, hown, hB9⟩ := hrel
    by_cases hlt : k < l.length
    · obtain ⟨b, off, rfl, hbk, hr⟩ := Hs.out.atCl hlt
      have hr' := range_below hr hB9 hbk
      have Hsn := hid (rofA_snoc l n hlt)
      have hck := Hok.out _ (List.getElem_mem hlt)
      have hlk := rofL_len l[k] n
      obtain ⟨c, hc⟩ : ∃ c, l[k] = c := ⟨_, rfl⟩
      rw [hc] at hr' Hsn hck hlk
      have le := ld_at hr'
      have c1 := hid (cR.out c hck wr)
      have Hown := hid hown
      have HB := hid hB9
      have hbs : w.heap.size ≤ wr.heap.size := hB9.size
      obtain ⟨R, hR⟩ : ∃ R, rofL c n = R := ⟨_, rfl⟩
      rw [hR] at c1 Hsn hlk
      clear hr hr' hc hck hown hB9 hR
      go_wp2_with fail
      refine c1.out.mono ?_
      rintro e w2 ⟨a2, m, cap2, rfl, hm, hsl, ho2, hB2⟩
      obtain rfl := hm.out
      have Hl1 : Hid ((ints R).length = R.length * 1) := by show _ = _; rw [ints_length, Nat.mul_one]
      have Hsl := hid hsl
      have Hnone := hid (owns_none ho2)
      have Hown2 := hid (owns_below Hown.out hB2 (zG _))
      have HB2 := hid (HB.out.trans (hB2.mono hbs))
      have hbs2 : w.heap.size ≤ w2.heap.size := zI hbs hB2.size
      clear hsl ho2 hB2 hm le
      go_wp2_with (at_builtin; refine appN eInt (.tmp 13) (.tmp 19) rfl rfl rfl rfl Hown2.out Hl1.out Hsl.out Hnone.out (ints_one1 _) (by omega) (by omega) hbs2 ?_)
      intro a' cap' w4 hown2 hg2 hb2 hf2
      have hq1 : Hid (q + R.length = (rofA (l.take (k + 1)) n).length) := by show _ = _; rw [Hsn.out, List.length_append, ← Hq.out]
      have ho1 : Hid (w4.ownsRow w.heap.size 3 1 (.slice a' (q + R.length) cap') (q + R.length) (ints (rofA (l.take (k + 1)) n))) := by
        show World.ownsRow _ _ _ _ _ _ _
        rw [Hsn.out, ints_append]; exact hown2
      have HB4 : Hid (Below w.heap.size w w4) := HB2.out.trans hb2
      clear hown2 hg2 hb2 hf2
      go_wp2
      exact ⟨⟨k + 1, q + R.length, cap', a', by go_num, by omega, rfl, by omega, hq1, ho1.out, HB4.out⟩, by simp [intOf]; omega⟩
    · obtain rfl : k = l.length := by omega
      rw [List.take_length] at Hq hown
      have c2 := hid (cF.out aq cq (rofA l n) wr (by omega) (owns_sl hown))
      rw [hE.out, ← Hq.out] at c2
      have HB := hid hB9
      clear hown hB9
      go_wp2_with fail
      refine c2.out.mono ?_
      rintro e w4 ⟨v, rfl, ho, hB4⟩
      have ho1 := hid (owns_base ho HB.out.size)
      have HB4 := hid (HB.out.trans (hB4.mono HB.out.size))
      clear ho hB4
      go_wp2
      go_ret
      exact ⟨_, rfl, ho1.out, HB4.out⟩
end
section
open Go.RowKit Go.Maps

theorem at_more {cs : List Cl} {n : Int} {ws ws2 : Nat → Bool} {m m2 : Nat} (h1 : AtStep cs n ws m ws2 m2) : m2 ≤ m + 1 ∧ m ≤ m2 := by
  rcases h1 with ⟨-, -, e⟩ | ⟨-, -, -, e⟩ | ⟨-, -, -, e | e⟩
  · omega
  · rw [e]; split <;> omega
  · omega
  · omega
def RdS (w : World) (l : List Cl) (br bk : Nat) (bps : List Nat) (k : Nat) (wr : World) : Prop := ∃ F ws m, RollS wr l br bk bps F ws m ∧ m ≤ k ∧ Below w.heap.size w wr
theorem RdS.below {w wr w' : World} {l : List Cl} {br bk : Nat} {bps : List Nat} {k : Nat} (h : RdS w l br bk bps k wr) (hB : Below wr.heap.size wr w') : RdS w l br bk bps k w' := by
  obtain ⟨F, ws, m, h1, h2, h3⟩ := h
  exact ⟨F, ws, m, h1.below hB, h2, h3.trans (hB.mono h3.size)⟩
end
section
open Go.RowKit Go.Maps

def instB (cs : List Cl) (t : Int) : Bool := cs.any fun c => hasC c t
theorem dayQ_inst (cs : List Cl) (n : Int) (k : Nat) : dayQ cs n k = instB cs (86400 * n + k) := rfl
theorem inst_win {cs : List Cl} {t : Int} (h : instB cs t = true) : 0 ≤ t ∧ t < 12622780800 := by
  rw [instB, List.any_eq_true] at h
  obtain ⟨c, -, hc⟩ := h
  obtain ⟨-, -, -, h1, h2⟩ := has_held hc
  exact ⟨h1, h2⟩
def remQ (cs : List Cl) (n u s : Int) (k : Nat) : Bool := dayQ cs n k && (decide (s ≤ k) && decide (86400 * n + k ≤ u))
def remI (cs : List Cl) (n u s : Int) : List Int := secL (remQ cs n u s)
theorem remI_mem {cs : List Cl} {n u s x : Int} : x ∈ remI cs n u s ↔ ∃ k : Nat, k < 86400 ∧ x = k ∧ dayQ cs n k = true ∧ s ≤ k ∧ 86400 * n + k ≤ u := by
  rw [remI, secL, sel_mem]
  constructor
  · rintro ⟨k, h1, h2, h3⟩
    rw [remQ, Bool.and_eq_true, Bool.and_eq_true, decide_eq_true_eq, decide_eq_true_eq] at h2
    exact ⟨k, h1, h3, h2.1, h2.2.1, h2.2.2⟩
  · rintro ⟨k, h1, h3, h2, h4, h5⟩
    exact ⟨k, h1, by rw [remQ, h2, decide_eq_true h4, decide_eq_true h5]; rfl, h3⟩
theorem remI_pair (cs : List Cl) (n u s : Int) : (remI cs n u s).Pairwise (· < ·) := sel_rising _ _
theorem rising_ext : ∀ {l m : List Int}, l.Pairwise (· < ·) → m.Pairwise (· < ·) → (∀ x, x ∈ l ↔ x ∈ m) → l = m
  | [], [], _, _, _ => rfl
  | [], y :: m, _, _, h => by have := (h y).2 (by simp); simp at this
  | x :: l, [], _, _, h => by have := (h x).1 (by simp); simp at this
  | x :: l, y :: m, hl, hm, h => by
    rw [List.pairwise_cons] at hl hm
    have e : x = y := by
      rcases List.mem_cons.1 ((h x).1 (by simp)) with e | h1
      · exact e
      · rcases List.mem_cons.1 ((h y).2 (by simp)) with e | h2
        · exact e.symm
        · have a := hm.1 x h1; have b := hl.1 y h2; omega
    subst e
    congr 1
    refine rising_ext hl.2 hm.2 (fun z => ⟨fun hz => ?_, fun hz => ?_⟩)
    · rcases List.mem_cons.1 ((h z).1 (by simp [hz])) with e | h1
      · subst e; have := hl.1 z hz; omega
      · exact h1
    · rcases List.mem_cons.1 ((h z).2 (by simp [hz])) with e | h1
      · subst e; have := hm.1 z hz; omega
      · exact h1
theorem rem_first {cs : List Cl} {n u s at' : Int} {ok : Bool} (h : FirstOf (fun k => dayQ cs n k && decide (s ≤ k)) at' ok) :
    (ok = true → 86400 * n + at' ≤ u → remI cs n u s = at' :: remI cs n u (at' + 1)) ∧ (ok = true → ¬ 86400 * n + at' ≤ u → remI cs n u s = []) ∧ (ok = false → remI cs n u s = []) ∧ (ok = true → s ≤ at' ∧ 0 ≤ at' ∧ at' < 86400 ∧ dayQ cs n at'.toNat = true) := by
  rcases h with ⟨rfl, k, rfl, hk, hp, hno⟩ | ⟨rfl, rfl, hno⟩
  · rw [Bool.and_eq_true, decide_eq_true_eq] at hp
    have low : ∀ j : Nat, dayQ cs n j = true → s ≤ j → k ≤ j := fun j h1 h2 => by
      rcases Nat.lt_or_ge j k with h | h
      · have h3 : (dayQ cs n j && decide (s ≤ (j : Int))) = false := hno j h
        rw [h1, decide_eq_true h2] at h3; cases h3
      · exact h
    refine ⟨fun _ hu => ?_, fun _ hu => ?_, fun h => (by cases h), fun _ => ⟨hp.2, by omega, by omega, by simpa using hp.1⟩⟩
    · refine rising_ext (remI_pair _ _ _ _) (List.pairwise_cons.2 ⟨fun y hy => ?_, remI_pair _ _ _ _⟩) fun y => ?_
      · obtain ⟨j, -, rfl, -, h1, -⟩ := remI_mem.1 hy
        omega
      · rw [List.mem_cons, remI_mem, remI_mem]
        constructor
        · rintro ⟨j, h1, rfl, h2, h3, h4⟩
          have := low j h2 h3
          rcases Nat.eq_or_lt_of_le this with e | e
          · exact .inl (by rw [e])
          · exact .inr ⟨j, h1, rfl, h2, by omega, h4⟩
        · rintro (rfl | ⟨j, h1, rfl, h2, h3, h4⟩)
          · exact ⟨k, hk, rfl, hp.1, hp.2, hu⟩
          · exact ⟨j, h1, rfl, h2, by omega, h4⟩
    · rw [List.eq_nil_iff_forall_not_mem]
      intro y hy
      obtain ⟨j, h1, rfl, h2, h3, h4⟩ := remI_mem.1 hy
      have := low j h2 h3
      omega
  · refine ⟨fun h => (by cases h), fun h => (by cases h), fun _ => ?_, fun h => (by cases h)⟩
    rw [List.eq_nil_iff_forall_not_mem]
    intro y hy
    obtain ⟨j, h1, rfl, h2, h3, h4⟩ := remI_mem.1 hy
    have h4 : (dayQ cs n j && decide (s ≤ (j : Int))) = false := hno j h1
    rw [h2, decide_eq_true h3] at h4; cases h4
def dayI (cs : List Cl) (f u n : Int) : List Int := (remI cs n u (max 0 (f - 86400 * n))).map fun x => 86400 * n + x
theorem dayI_mem {cs : List Cl} {f u n t : Int} : t ∈ dayI cs f u n ↔ t / 86400 = n ∧ f ≤ t ∧ t ≤ u ∧ instB cs t = true := by
  rw [dayI, List.mem_map]
  constructor
  · rintro ⟨x, hx, rfl⟩
    obtain ⟨k, h1, rfl, h2, h3, h4⟩ := remI_mem.1 hx
    exact ⟨by omega, by omega, h4, h2⟩
  · rintro ⟨rfl, h1, h2, h3⟩
    have e : (((t % 86400).toNat : Nat) : Int) = t % 86400 := Int.toNat_of_nonneg (by omega)
    refine ⟨t % 86400, remI_mem.2 ⟨(t % 86400).toNat, by omega, e.symm, ?_, by omega, by omega⟩, by omega⟩
    rw [dayQ_inst, e, show 86400 * (t / 86400) + t % 86400 = t by omega]; exact h3
theorem dayI_pair (cs : List Cl) (f u n : Int) : (dayI cs f u n).Pairwise (· < ·) := by
  rw [dayI, List.pairwise_map]
  exact (remI_pair _ _ _ _).imp fun h => by omega
def instL (cs : List Cl) (f u : Int) (ds : List Int) : List Int := ds.flatMap (dayI cs f u)
def cntI (cs : List Cl) (f u : Int) (ds : List Int) (k : Nat) : Nat := (instL cs f u (ds.take k)).length
theorem cntI_zero (cs : List Cl) (f u : Int) (ds : List Int) : cntI cs f u ds 0 = 0 := rfl
theorem cntI_all (cs : List Cl) (f u : Int) (ds : List Int) : cntI cs f u ds ds.length = (instL cs f u ds).length := by rw [cntI, List.take_length]
theorem cntI_snoc {cs : List Cl} {f u n : Int} {ds : List Int} {k : Nat} (h : ds[k]? = some n) : cntI cs f u ds (k + 1) = cntI cs f u ds k + (dayI cs f u n).length := by
  obtain ⟨hk, rfl⟩ := List.getElem?_eq_some_iff.1 h
  rw [cntI, take_snoc ds k hk, instL, List.flatMap_append, List.length_append, cntI, instL]; simp
theorem inst_split {cs : List Cl} {f u n : Int} {ds : List Int} {k : Nat} (h : ds[k]? = some n) : instL cs f u ds = instL cs f u (ds.take k) ++ (dayI cs f u n ++ instL cs f u (ds.drop (k + 1))) := by
  obtain ⟨hk, rfl⟩ := List.getElem?_eq_some_iff.1 h
  rw [instL, instL, instL]
  conv => lhs; rw [← List.take_append_drop k ds, List.drop_eq_getElem_cons hk]
  rw [List.flatMap_append, List.flatMap_cons]
theorem inst_at {cs : List Cl} {f u n x : Int} {ds : List Int} {k p : Nat} (h : ds[k]? = some n) (hx : (dayI cs f u n)[p]? = some x) : (instL cs f u ds)[cntI cs f u ds k + p]? = some x := by
  rw [inst_split h, List.getElem?_append_right (by rw [cntI]; omega), cntI, show (instL cs f u (ds.take k)).length + p - (instL cs f u (ds.take k)).length = p by omega, List.getElem?_append_left (List.getElem?_eq_some_iff.1 hx).1, hx]
theorem inst_stop {cs : List Cl} {f u n x : Int} {ds : List Int} {k : Nat} (hp : ds.Pairwise (· < ·)) (h : ds[k]? = some n) (h1 : x < 86400) (h2 : u < 86400 * n + x) : (instL cs f u ds).length = cntI cs f u ds (k + 1) := by
  obtain ⟨hk, rfl⟩ := List.getElem?_eq_some_iff.1 h
  rw [cntI_snoc h, inst_split h, List.length_append, List.length_append, cntI]
  have e : instL cs f u (ds.drop (k + 1)) = [] := by
    rw [List.eq_nil_iff_forall_not_mem]
    intro t ht
    rw [instL, List.mem_flatMap] at ht
    obtain ⟨n', hn', ht⟩ := ht
    obtain ⟨g1, -, g2, -⟩ := dayI_mem.1 ht
    obtain ⟨j, hj⟩ := List.getElem?_of_mem hn'
    rw [List.getElem?_drop] at hj
    obtain ⟨hj1, hj2⟩ := List.getElem?_eq_some_iff.1 hj
    have := List.pairwise_iff_getElem.1 hp k (k + 1 + j) hk hj1 (by omega)
    omega
  rw [e, List.length_nil, Nat.add_zero]
theorem daysL_up (a b : Int) : (daysL a b).Pairwise (· < ·) := by
  rw [daysL, List.pairwise_map]
  exact List.Pairwise.imp (fun h => by omega) List.pairwise_lt_range
theorem dayS_up (cs : List Cl) (a b : Int) : (dayS cs (daysL a b)).Pairwise (· < ·) := (daysL_up a b).filter _
def instA (cs : List Cl) (f u : Int) : List Int := instL cs f u (dayS cs (daysL (f / 86400) (u / 86400)))
theorem instA_mem {cs : List Cl} {f u t : Int} : t ∈ instA cs f u ↔ f ≤ t ∧ t ≤ u ∧ instB cs t = true := by
  rw [instA, instL, List.mem_flatMap]
  constructor
  · rintro ⟨n, -, h⟩
    obtain ⟨-, h1, h2, h3⟩ := dayI_mem.1 h
    exact ⟨h1, h2, h3⟩
  · rintro ⟨h1, h2, h3⟩
    refine ⟨t / 86400, ?_, dayI_mem.2 ⟨rfl, h1, h2, h3⟩⟩
    rw [dayS, List.mem_filter, daysL_mem]
    refine ⟨⟨by omega, by omega⟩, anyQ_true.2 ⟨(t % 86400).toNat, by omega, ?_⟩⟩
    rw [dayQ_inst, Int.toNat_of_nonneg (by omega), show 86400 * (t / 86400) + t % 86400 = t by omega]; exact h3
theorem instA_up (cs : List Cl) (f u : Int) : (instA cs f u).Pairwise (· < ·) := by
  have key : ∀ ds : List Int, ds.Pairwise (· < ·) → (instL cs f u ds).Pairwise (· < ·) := by
    intro ds
    induction ds with
    | nil => intro _; exact List.Pairwise.nil
    | cons n ds ih =>
      intro hp
      rw [List.pairwise_cons] at hp
      rw [instL, List.flatMap_cons, List.pairwise_append]
      refine ⟨dayI_pair _ _ _ _, ih hp.2, fun a ha b hb => ?_⟩
      rw [List.mem_flatMap] at hb
      obtain ⟨n', hn', hb⟩ := hb
      obtain ⟨h1, -⟩ := dayI_mem.1 ha
      obtain ⟨h2, -⟩ := dayI_mem.1 hb
      have := hp.1 n' hn'
      omega
  exact key _ (dayS_up _ _ _)
theorem instA_nil {cs : List Cl} {f u : Int} (h : u < f) : instA cs f u = [] := by
  rw [List.eq_nil_iff_forall_not_mem]
  intro t ht
  obtain ⟨h1, h2, -⟩ := instA_mem.1 ht
  omega
end
section
open Go.RowKit Go.Maps

def cntT (cs : List Cl) (f u : Int) : Nat := (instA cs f u).length
theorem inst_cut (cs : List Cl) {f m u : Int} (h1 : f ≤ m + 1) (h2 : m ≤ u) : instA cs f u = instA cs f m ++ instA cs (m + 1) u := by
  refine rising_ext (instA_up _ _ _) ?_ (fun x => ?_)
  · rw [List.pairwise_append]
    refine ⟨instA_up _ _ _, instA_up _ _ _, fun a ha b hb => ?_⟩
    have g1 := instA_mem.1 ha
    have g2 := instA_mem.1 hb
    omega
  · rw [List.mem_append, instA_mem, instA_mem, instA_mem]
    constructor
    · rintro ⟨g1, g2, g3⟩
      rcases Int.lt_or_le m x with h | h
      · exact .inr ⟨by omega, g2, g3⟩
      · exact .inl ⟨g1, h, g3⟩
    · rintro (⟨g1, g2, g3⟩ | ⟨g1, g2, g3⟩)
      · exact ⟨g1, by omega, g3⟩
      · exact ⟨by omega, g2, g3⟩
theorem cntT_cut (cs : List Cl) {f m u : Int} (h1 : f ≤ m + 1) (h2 : m ≤ u) : cntT cs f u = cntT cs f m + cntT cs (m + 1) u := by
  rw [cntT, inst_cut cs h1 h2, List.length_append]; rfl
theorem cntT_nil (cs : List Cl) {f u : Int} (h : u < f) : cntT cs f u = 0 := by rw [cntT, instA_nil h]; rfl
theorem inst_one (cs : List Cl) (t : Int) : instA cs t t = if instB cs t then [t] else [] := by
  refine rising_ext (instA_up _ _ _) (by split <;> simp) (fun x => ?_)
  rw [instA_mem]
  constructor
  · rintro ⟨g1, g2, g3⟩
    obtain rfl : x = t := by omega
    rw [if_pos g3]; simp
  · intro h
    split at h
    · rename_i g
      obtain rfl := List.mem_singleton.1 h
      exact ⟨Int.le_refl _, Int.le_refl _, g⟩
    · cases h
theorem cntT_one (cs : List Cl) (t : Int) : cntT cs t t = if instB cs t then 1 else 0 := by
  rw [cntT, inst_one]; split <;> rfl
theorem inst_upto (cs : List Cl) {f u : Int} {n : Nat} (h : n < (instA cs f u).length) : instA cs f ((instA cs f u)[n]) = (instA cs f u).take (n + 1) := by
  have hp := instA_up cs f u
  have hm := fun x => instA_mem (cs := cs) (f := f) (u := u) (t := x)
  have hx := (hm _).1 (List.getElem_mem h)
  have e : ∀ x, x ∈ instA cs f ((instA cs f u)[n]) ↔ x ∈ instA cs f u ∧ x ≤ (instA cs f u)[n] := fun x => by
    rw [instA_mem, instA_mem]
    constructor
    · rintro ⟨g1, g2, g3⟩; exact ⟨⟨g1, by omega, g3⟩, g2⟩
    · rintro ⟨⟨g1, g2, g3⟩, g4⟩; exact ⟨g1, g4, g3⟩
  refine rising_ext (instA_up _ _ _) (List.Pairwise.sublist (List.take_sublist _ _) hp) (fun x => ?_)
  rw [e]
  generalize instA cs f u = L at *
  clear e hm hx
  rw [List.pairwise_iff_getElem] at hp
  constructor
  · rintro ⟨g1, g2⟩
    obtain ⟨j, hj, rfl⟩ := List.mem_iff_getElem.1 g1
    have : j < n + 1 := by
      apply Nat.lt_of_not_le
      intro h2
      have := hp n j h hj (by omega); omega
    rw [List.mem_iff_getElem]
    exact ⟨j, by rw [List.length_take]; omega, List.getElem_take⟩
  · intro hx
    obtain ⟨j, hj, rfl⟩ := List.mem_iff_getElem.1 hx
    have hj2 : j < L.length := by rw [List.length_take] at hj; omega
    have hj3 : j < n + 1 := by rw [List.length_take] at hj; omega
    rw [List.getElem_take]
    refine ⟨List.getElem_mem hj2, ?_⟩
    rcases Nat.lt_or_ge j n with h2 | h2
    · have := hp j n hj2 h h2; omega
    · obtain rfl : j = n := by omega
      exact Int.le_refl _
theorem cntT_upto (cs : List Cl) {f u : Int} {n : Nat} (h : n < (instA cs f u).length) : cntT cs f ((instA cs f u)[n]) = n + 1 := by
  rw [cntT, inst_upto cs h, List.length_take]; omega
theorem dayI_whole (cs : List Cl) {f u n : Int} (h1 : f ≤ 86400 * n) (h2 : 86400 * n + 86399 ≤ u) : (dayI cs f u n).length = (secL (dayQ cs n)).length := by
  have e : remI cs n u (max 0 (f - 86400 * n)) = secL (dayQ cs n) := by
    refine rising_ext (remI_pair _ _ _ _) (sel_rising _ _) (fun x => ?_)
    rw [remI_mem, secL, sel_mem]
    constructor
    · rintro ⟨k, g1, g2, g3, -⟩; exact ⟨k, g1, g3, g2⟩
    · rintro ⟨k, g1, g3, g2⟩; exact ⟨k, g1, g2, g3, by omega, by omega⟩
  rw [dayI, List.length_map, e]
theorem dayI_all (cs : List Cl) {f u n : Int} (h1 : f ≤ 86400 * n) (h2 : 86400 * n + 86399 ≤ u) : dayI cs f u n = (secL (dayQ cs n)).map fun x => 86400 * n + x := by
  have e : remI cs n u (max 0 (f - 86400 * n)) = secL (dayQ cs n) := by
    refine rising_ext (remI_pair _ _ _ _) (sel_rising _ _) (fun x => ?_)
    rw [remI_mem, secL, sel_mem]
    constructor
    · rintro ⟨k, g1, g2, g3, -⟩; exact ⟨k, g1, g3, g2⟩
    · rintro ⟨k, g1, g3, g2⟩; exact ⟨k, g1, g2, g3, by omega, by omega⟩
  rw [dayI, e]
theorem dayI_count (cs : List Cl) (f u n : Int) : ((secL (dayQ cs n)).filter fun x => decide (f ≤ 86400 * n + x) && decide (86400 * n + x ≤ u)).length = (dayI cs f u n).length := by
  have e : remI cs n u (max 0 (f - 86400 * n)) = (secL (dayQ cs n)).filter fun x => decide (f ≤ 86400 * n + x) && decide (86400 * n + x ≤ u) := by
    refine rising_ext (remI_pair _ _ _ _) ((sel_rising _ _).filter _) (fun x => ?_)
    rw [remI_mem, List.mem_filter, secL, sel_mem, Bool.and_eq_true, decide_eq_true_eq, decide_eq_true_eq]
    constructor
    · rintro ⟨k, g1, rfl, g3, g4, g5⟩; exact ⟨⟨k, g1, g3, rfl⟩, by omega, g5⟩
    · rintro ⟨⟨k, g1, g3, rfl⟩, g4, g5⟩; exact ⟨k, g1, rfl, g3, by omega, g5⟩
  rw [dayI, List.length_map, e]
def cntS (f u n : Int) (X : List Int) (p : Nat) : Nat := ((X.take p).filter fun x => decide (f ≤ 86400 * n + x) && decide (86400 * n + x ≤ u)).length
theorem cntS_zero (f u n : Int) (X : List Int) : cntS f u n X 0 = 0 := rfl
theorem cntS_snoc (f u n : Int) {X : List Int} {p : Nat} (h : p < X.length) : cntS f u n X (p + 1) = cntS f u n X p + if (decide (f ≤ 86400 * n + X[p]) && decide (86400 * n + X[p] ≤ u)) = true then 1 else 0 := by
  rw [cntS, take_snoc X p h, List.filter_append, List.length_append, cntS, List.filter_cons]
  split <;> rfl
theorem cntS_all (cs : List Cl) (f u n : Int) : cntS f u n (secL (dayQ cs n)) (secL (dayQ cs n)).length = (dayI cs f u n).length := by
  rw [cntS, List.take_length, dayI_count]
theorem cntT_win (cs : List Cl) (f u : Int) : cntT cs (max f 0) (min u 12622780799) = cntT cs f u := by
  have e : instA cs (max f 0) (min u 12622780799) = instA cs f u := by
    refine rising_ext (instA_up _ _ _) (instA_up _ _ _) (fun x => ?_)
    rw [instA_mem, instA_mem]
    constructor
    · rintro ⟨g1, g2, g3⟩; exact ⟨by omega, by omega, g3⟩
    · rintro ⟨g1, g2, g3⟩; have := inst_win g3; exact ⟨by omega, by omega, g3⟩
  rw [cntT, cntT, e]
end
section
open Go.RowKit

theorem range_outerG {P : Program} {m : Nat} {g : Operand} {ps : Array Tmp} {assign body : Code} {Q : Exit → Act → World → Prop} {a : Act} {w : World} {gf : Nat} {lb : Array Value} {n : Nat} {V : Nat → Array Value → Blk → World → Prop} {H HN HS : Blk → World → Prop} {M F : Blk}
    (hg : a.eval g = .func (.func gf) #[] lb) (eg : ∀ args w, (callFunc gf args).run P w = .ok (.enter gf args) w) (Ow : Blk) (hps : ∀ k vs F W, V k vs F W → vs.size = ps.size) (hseq : TellsH P gf lb n V H HN HS M) (hH : HostOk H M) (hN : HostOk HN M) (hS : HostOk HS M) (hF : H F w) (hFO : ∀ b, F b → ¬ Ow b)
    (I : OwnF) (Ix : Code → OwnF) (hI : StabF M I) (hIx : ∀ c, StabF M (Ix c)) (hIl : LtF I) (hIxl : ∀ c, LtF (Ix c)) (h0 : I 0 Ow F w)
    (A : Nat → Blk → Blk → Act → World → Prop) (hA : ∀ l o k O F a' W, (∃ r, W.heap[l]? = some (.loop r)) → ¬ O l → ¬ F l → A k O F a' W → A k O F a' (W.putObj l o))
    (hassign : ∀ l k O F W vs (K : Act → World → Prop), k < n → I k O F W → (∀ b, F b → ¬ O b ∧ b ≠ l) → V k vs F W → GrowM M Ow O w W → (∀ a' O' W', Grow O O' W W' → A k O' F a' W' → K a' W') →
      assign.wpIn (WF (some l)) m P (Exit.then K (fun _ _ _ => False)) { tmps := (ps.zip vs).foldl (fun t (p, v) => t.setIfInBounds p v) a.tmps, defers := [] } W)
    (hbody : ∀ l k O F a' W, k < n → GrowM M Ow O w W → w.heap.size ≤ l → (∃ r, W.heap[l]? = some (.loop r)) → ¬ O l → ¬ F l → A k O F a' W → body.wpIn (WF (some l)) m P (RPost (atF I F) (fun c => atF (Ix c) F) k O W) a' W)
    (hdone : ∀ O' F' W', GrowM M Ow O' w W' → HN F' W' → (∀ b, F b → F' b) → (∀ b, F' b → F b ∨ w.heap.size ≤ b) → (∀ b, F' b → ¬ O' b) → I n O' F' W' → W'.heap[w.heap.size]? = some (.deferred (some [])) → ¬ O' w.heap.size → ¬ F' w.heap.size → Q .normal { a with defers := { target := .collected w.heap.size, args := #[] } :: a.defers } W')
    (hstop : ∀ c k O' F' W', 1 ≤ k → k ≤ n → GrowM M Ow O' w W' → HS F' W' → (∀ b, F b → F' b) → (∀ b, F' b → F b ∨ w.heap.size ≤ b) → (∀ b, F' b → ¬ O' b) → Ix c k O' F' W' → W'.heap[w.heap.size]? = some (.deferred (some [])) → ¬ O' w.heap.size → ¬ F' w.heap.size →
      c.wpIn (WF none) m P Q { a with defers := { target := .collected w.heap.size, args := #[] } :: a.defers } W') :
    (Code.rangeFunc g ps assign body).wpIn (WF none) m P Q a w := by
  refine wpIn_rangeFunc ?_
  intro fn hfn
  obtain ⟨W1, hW1⟩ : ∃ W1, (w.alloc (.deferred (some []))).alloc (.loop (loopRec fn a.tmps ps assign body w.heap.size .ready none)) = W1 := ⟨_, rfl⟩
  have hL1 : W1.heap[w.heap.size + 1]? = some (.loop (loopRec fn a.tmps ps assign body w.heap.size .ready none)) := by
    rw [← hW1]; have := World.alloc_heap_new (w.alloc (.deferred (some []))) (.loop (loopRec fn a.tmps ps assign body w.heap.size .ready none)); rwa [World.size_alloc] at this
  have hB1 : Below w.heap.size w W1 := by rw [← hW1]; exact ((Below.refl _ w).alloc (zG _) _).alloc (by simp) _
  have hK1 : W1.heap[w.heap.size]? = some (.deferred (some [])) := by
    rw [← hW1]; exact (Below.heap_alloc _ _ _ (by simp)).trans (World.alloc_heap_new w _)
  have hlt := hIl 0 Ow F w h0
  have hFlt := hH.lt F w hF
  have hF1 : H F W1 := hH.stab F w W1 hF hB1.size (fun b hb => hB1.block b (hFlt b hb))
  have hMlt : ∀ b, M b → b < w.heap.size := fun b hb => hFlt b (hH.sub F w hF b hb)
  have hJ : RJF (loopRec fn a.tmps ps assign body w.heap.size .ready none) (w.heap.size + 1) (some w.heap.size) I 0 (fun b => Ow b ∨ b = w.heap.size + 1 ∨ some w.heap.size = some b) F W1 :=
    ⟨Ow, fun b => Iff.rfl, fun h => by have := hlt _ h; omega, fun d hd => by cases hd; exact ⟨fun h => by have := hlt _ h; omega, by omega, hK1⟩, hI 0 Ow F F w W1 h0 hB1.size (fun _ h => h) (fun b hb => hB1.block b (hb.elim (hlt b) (fun h => hFlt b h.1))), hL1⟩
  have hlc := heap_lt hL1
  have hC := loop_clientH (P := P) (m := m) (fn := fn) (tmps := a.tmps) (D := w.heap.size) (l := w.heap.size + 1) (Dk := some w.heap.size) (n := n) (V := V) (M := M) hps hI hIx hIl hIxl A hA Ow (fun b => Ow b ∨ b = w.heap.size + 1 ∨ some w.heap.size = some b) w W1 (by omega) (fun O O1 W hO hG => ⟨fun b hb => by
      have hb2 := hlt b hb
      rcases (hO b).mp (hG.sub b (.inl hb)) with h | h | h
      · exact h
      · omega
      · cases h; omega, fun b hb => by
      rcases hG.new b ((hO b).mpr (.inl hb)) with (h | h | h) | h
      · exact .inl h
      · exact .inr (by omega)
      · cases h; exact .inr (by omega)
      · exact .inr (by have := hB1.size; omega), (Eff.of_below (O := fun b => Ow b ∨ M b) hB1).trans hG.eff fun b hb => by
      rcases hb with (h | h | h) | h
      · exact .inl (.inl h)
      · exact .inr (by omega)
      · cases h; exact .inr (by omega)
      · exact .inl (.inr h)⟩) (hassign (w.heap.size + 1)) (fun k O F a' W hk hG => hbody (w.heap.size + 1) k O F a' W hk hG (by omega))
  have hcall := hseq _ _ _ _ F W1 hF1 (fun b hb h => by
    have := hFlt b hb
    rcases h with h | h | h
    · exact hFO b hb h
    · omega
    · cases h; omega) hC hJ
  refine ⟨w.heap.size + 1, [{ target := .collected w.heap.size, args := #[] }], W1, { target := .fn (.func gf) lb, args := #[.func (.yield (w.heap.size + 1)) #[] #[]] }, W1, gf,
    #[.func (.yield (w.heap.size + 1)) #[] #[]] ++ lb, W1, ?_, ?_, fun _ _ => trivial, ?_, (fun h => nomatch h), ?_⟩
  · rw [← hW1]; exact run_enterLoop_outer _ _ _ _ _
  · simp only [resolve, hg]; simp [go_sem]
  · simp [invoke, go_sem, eg]
  · refine wf_calls.mpr (hcall.mono ?_)
    have back : ∀ (X : OwnF) (H2 : Blk → World → Prop) (k : Nat) (O' F' : Nat → Prop) (W2 : World) (st : LoopState) (pe : Option Code), StabF M X → HostOk H2 M → st ≠ .busy → GrowM M (fun b => Ow b ∨ b = w.heap.size + 1 ∨ some w.heap.size = some b) O' W1 W2 →
        H2 F' W2 → (∀ b, F' b → ¬ O' b) → RJF (loopRec fn a.tmps ps assign body w.heap.size st pe) (w.heap.size + 1) (some w.heap.size) X k O' F' W2 →
        (Instr.endLoop (w.heap.size + 1)).run P W2 = .ok pe (W2.putObj (w.heap.size + 1) (.loop (loopRec fn a.tmps ps assign body w.heap.size .exhausted pe))) ∧ ∃ O2, GrowM M Ow O2 w (W2.putObj (w.heap.size + 1) (.loop (loopRec fn a.tmps ps assign body w.heap.size .exhausted pe))) ∧
          H2 F' (W2.putObj (w.heap.size + 1) (.loop (loopRec fn a.tmps ps assign body w.heap.size .exhausted pe))) ∧ (∀ b, F' b → ¬ O2 b) ∧ X k O2 F' (W2.putObj (w.heap.size + 1) (.loop (loopRec fn a.tmps ps assign body w.heap.size .exhausted pe))) ∧
          (W2.putObj (w.heap.size + 1) (.loop (loopRec fn a.tmps ps assign body w.heap.size .exhausted pe))).heap[w.heap.size]? = some (.deferred (some [])) ∧ ¬ O2 w.heap.size := by
      rintro X H2 k O' F' W2 st pe hX hH2 hst hGM hF2 hFO2 ⟨O1, hO, hnl, hD, hi, hl⟩
      have hr := run_endLoop (P := P) hl hst
      have hO1 : ∀ b, O1 b → O' b := fun b hb => (hO b).mpr (.inl hb)
      have hOl : O' (w.heap.size + 1) := (hO _).mpr (.inr (.inl rfl))
      refine ⟨hr, O1, ⟨fun b hb => ?_, fun b hb => ?_, ?_⟩, hH2.stab F' W2 _ hF2 (by rw [World.putObj_size]; exact zG _) (fun b hb => World.putObj_heap_other (fun e => hFO2 b hb (e ▸ hOl))), fun b hb h => hFO2 b hb (hO1 b h), hX _ _ _ _ _ _ hi (by rw [World.putObj_size]; exact zG _) (fun _ h => h) (fun b hb => World.putObj_heap_other (fun e => by
          rcases hb with hb | hb
          · exact hnl (e ▸ hb)
          · exact hFO2 b hb.1 (e ▸ hOl))), (World.putObj_heap_other (by omega)).trans (hD _ rfl).2.2, (hD _ rfl).1⟩
      · have hb2 := hlt b hb
        rcases (hO b).mp (hGM.sub b (.inl hb)) with h | h | h
        · exact h
        · omega
        · cases h; omega
      · rcases hGM.new b ((hO b).mpr (.inl hb)) with (h | h | h) | h
        · exact .inl h
        · exact .inr (by omega)
        · cases h; exact .inr (by omega)
        · exact .inr (by have := hB1.size; omega)
      · refine Eff.putObj ((Eff.of_below (O := fun b => Ow b ∨ M b) hB1).trans hGM.eff fun b hb => ?_) (.inr (by omega)) _
        rcases hb with (h | h | h) | h
        · exact .inl (.inl h)
        · exact .inr (by omega)
        · cases h; exact .inr (by omega)
        · exact .inl (.inr h)
    rintro e W2 ⟨⟨v, rfl⟩, O', F', hGM, hFs, hFn, hFO2, hend⟩
    have hFn2 : ∀ b, F' b → F b ∨ w.heap.size ≤ b := fun b hb => by
      rcases hFn b hb with h | h
      · exact .inl h
      · exact .inr (by have := hB1.size; omega)
    have nFD : ¬ F' w.heap.size := fun h => hFO2 _ h (hGM.sub _ (.inr (.inr rfl)))
    rcases hend with ⟨hF2, hj⟩ | ⟨hF2, k, hk1, hk2, c, hj⟩
    · obtain ⟨h1, O2, h2, h3, h4, h5, h6, h7⟩ := back I HN n O' F' W2 .ready none hI hN (by simp) hGM hF2 hFO2 hj
      exact ⟨none, _, h1, hdone O2 F' _ h2 h3 hFs hFn2 h4 h5 h6 h7 nFD⟩
    · obtain ⟨h1, O2, h2, h3, h4, h5, h6, h7⟩ := back (Ix c) HS k O' F' W2 .done (some c) (hIx c) hS (by simp) hGM hF2 hFO2 hj
      exact ⟨some c, _, h1, hstop c k O2 F' _ hk1 hk2 h2 h3 hFs hFn2 h4 h5 h6 h7 nFD⟩
end
end Go.Proofs.YtchceegpbfecaaaGreatDoor

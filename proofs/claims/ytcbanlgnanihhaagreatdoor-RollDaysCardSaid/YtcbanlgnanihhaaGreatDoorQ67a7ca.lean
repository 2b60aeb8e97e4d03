/-
  feriaref16.Of and All: the seconds of a day that have a clause, and those that have one of clauses.
  ferialaw18.RollDays answers true for every clauses and days.
  The table of math/bits that this seat's rows list: what a row's premise gives of it, and a world that holds it.
  Lists of uint32, and two of them, that came in, as a row hands them over.
-/
import Derived.Test.YtcbanlgnanihhaaGreatDoorQ1c3beb
import Derived.Test.YtcbanlgnanihhaaGreatDoorQ119490
import Derived.Test.YtcbanlgnanihhaaGreatDoorQf91805
import Derived.Test.YtcbanlgnanihhaaGreatDoorQ80a1db
import Derived.Test.YtcbanlgnanihhaaGreatDoorCards
import Derived.Test.YtcbanlgnanihhaaGreatDoorTie
import Derived.Test.YtcbanlgnanihhaaGreatDoorQcb892a
import Derived.Test.YtcbanlgnanihhaaGreatDoorQ36c6cd
import Derived.Deep.DeepHandedRow
import Derived.Lib.LaidTab
namespace Go.Proofs.YtcbanlgnanihhaaGreatDoor
open Go.RowKit
set_option linter.unusedVariables false

/-- the seconds of a day that have a clause, as feriaref16.Of lists them -/
def rofB (c : Cl) (n x : Int) : Bool := betB c.fr c.un (86400 * n + x) && (decide (sizeU c.unit = 0) || onB c.unit c.step c.anchor (86400 * n + x))
def rofL (c : Cl) (n : Int) : List Int := if dayC c n then (secsOf (c.m 2) (c.m 1) (c.m 0)).filter (rofB c n) else []
theorem secsOf_count' (hs ms ss : Nat) : (secsOf hs ms ss).length ≤ 86400 := by
  have key : ∀ (L : List Int), L.Pairwise (· < ·) → (∀ y ∈ L, 0 ≤ y) → ∀ i (hi : i < L.length), (i : Int) ≤ L[i] := fun L hr h0 i => by
    induction i with
    | zero => exact fun hi => h0 _ (List.getElem_mem hi)
    | succ i ih =>
      intro hi
      have h1 := ih (by omega)
      have h2 := List.pairwise_iff_getElem.mp hr i (i + 1) (by omega) hi (by omega)
      omega
  rcases Nat.eq_zero_or_pos (secsOf hs ms ss).length with h | h
  · omega
  · have h1 := key _ (secsOf_rising hs ms ss) (fun y hy => (secsOf_bd hs ms ss hy).1) ((secsOf hs ms ss).length - 1) (by omega)
    have h2 := secsOf_bd hs ms ss (List.getElem_mem (l := secsOf hs ms ss) (n := (secsOf hs ms ss).length - 1) (by omega))
    omega
theorem rofL_len (c : Cl) (n : Int) : (rofL c n).length ≤ 86400 := by
  rw [rofL]; split
  · exact Nat.le_trans (List.length_filter_le _ _) (secsOf_count' _ _ _)
  · simp
theorem rofL_mem {c : Cl} (hc : c.Ok) {n : Int} (h0 : 0 ≤ n) (h1 : n < 146097) {k : Nat} (hk : k < 86400) : (k : Int) ∈ rofL c n ↔ hasC c (86400 * n + k) = true := by
  have hw : winB (86400 * n + k) = true := by rw [winB, decide_eq_true_eq]; omega
  have e1 : (86400 * n + (k : Int)) % 86400 = k := by omega
  have e2 : (86400 * n + (k : Int)) / 86400 = n := by omega
  have hs := secsOf_mem (hc.m 2 (by omega)) (hc.m 1 (by omega)) (hc.m 0 (by omega)) (k := (k : Int)) (by omega) (by omega)
  rw [rofL, hasC, hw, e1, e2, Bool.true_and]
  cases hd : dayC c n
  · simp
  · have hd' := hd
    rw [dayC, Bool.and_eq_true, Bool.and_eq_true] at hd'
    obtain ⟨hm, -, hon⟩ := hd'
    obtain ⟨ho, hst, hu, ha⟩ := may_ord hm
    rw [if_pos rfl, List.mem_filter, hs, hm, rofB, Bool.true_and, Bool.and_true, Bool.and_eq_true, Bool.and_eq_true, Bool.and_eq_true, Bool.or_eq_true, decide_eq_true_eq]
    constructor
    · rintro ⟨g1, g2, g3⟩
      refine ⟨g2, g1, ?_⟩
      rcases g3 with g3 | g3
      · have := dayOn_on hu ha hst (t := 86400 * n + k) (by omega) (by omega) g3
        rw [e2] at this
        rw [← this]; exact hon
      · exact g3
    · rintro ⟨g1, g2, g3⟩
      exact ⟨g2, g1, .inr g3⟩
theorem rofL_bd {c : Cl} {n x : Int} (h : x ∈ rofL c n) : 0 ≤ x ∧ x < 86400 := by
  rw [rofL] at h
  split at h
  · exact secsOf_bd _ _ _ (List.mem_filter.1 h).1
  · cases h
attribute [local go_sem ↓] loadAt_cl
abbrev LrS (w : World) (c : Cl) (W : World) : Prop := (loadClS (.pointer (some ⟨w.heap.size, 0, none⟩))).run Tryz.prog W = .ok (clv c) W ∧ ClB W w.heap.size c ∧ Below w.heap.size w W ∧ w.heap.size < W.heap.size
theorem LrS.of {w W : World} {c : Cl} (h : ClB W w.heap.size c) (hb : Below w.heap.size w W) (hs : w.heap.size < W.heap.size) : LrS w c W := ⟨h.ld, h, hb, hs⟩
theorem LrS.keep {w W W' : World} {c : Cl} (h : LrS w c W) (hb : Below W.heap.size W W') : LrS w c W' :=
  LrS.of (h.2.1.below hb h.2.2.2) (h.2.2.1.trans (hb.mono (Nat.le_of_lt h.2.2.2))) (Nat.lt_of_lt_of_le h.2.2.2 hb.size)
theorem filter_snoc {p : Int → Bool} {l : List Int} {k : Nat} (hk : k < l.length) : (l.take (k + 1)).filter p = (l.take k).filter p ++ if p l[k] then [l[k]] else [] := by
  rw [take_snoc l k hk, List.filter_append]
  cases h : p l[k] <;> simp [h]

set_option maxRecDepth 100000 in
set_option maxHeartbeats 3200000 in
theorem RLap16_any (c : Cl) (n : Int) (w : World) (hc : c.Ok) (h0 : 0 ≤ n) (h1 : n < 146097) :
    Calls Tryz.prog 50 #[clv c, .int .i64 n] w fun e w' => ∃ v, e = .returned v ∧ w'.ownsRow w.heap.size 3 1 v (rofL c n).length (ints (rofL c n)) ∧ Below w.heap.size w w' := by
  have HS0 : Hid (LrS w c (w.alloc (.cells (clList c).toArray 32)).drew) := (LrS.of (clB_new w c _) (below_new (Below.refl _ _) (Nat.le_refl _)) (by simp)).keep (Below.refl _ _).drew
  have cS := hid (fun W (h : LrS w c W) => keep_of' (RShape_any n W h0 h1) (fun _ => h.keep))
  have cD := hid (fun W (h : LrS w c W) => keep_of' (RDay13_any c n W hc h0 h1) (fun _ => h.keep))
  have cA := hid (fun W => own_ret (RAll_any (c.m 2) (c.m 1) (c.m 0) W (hc.m 2 (by omega)) (hc.m 1 (by omega)) (hc.m 0 (by omega))))
  have cZ := hid (fun W => RSize_any c.unit W)
  have cO := hid (fun t W => RUOn_any c.unit c.step c.anchor t W hc.step)
  have hz := sizeU_cases c.unit
  have hlen := secsOf_count' (c.m 2) (c.m 1) (c.m 0)
  have hbd := hid (fun x hx => secsOf_bd (c.m 2) (c.m 1) (c.m 0) (x := x) hx)
  have hR : Hid (rofL c n = if dayC c n then (secsOf (c.m 2) (c.m 1) (c.m 0)).filter (rofB c n) else []) := rfl
  have hB : Hid (∀ x, rofB c n x = (betB c.fr c.un (86400 * n + x) && (decide (sizeU c.unit = 0) || onB c.unit c.step c.anchor (86400 * n + x)))) := fun x => rfl
  rw [← secsOf] at cA
  obtain ⟨L, hL⟩ : ∃ L, secsOf (c.m 2) (c.m 1) (c.m 0) = L := ⟨_, rfl⟩
  rw [hL] at cA hlen hbd hR
  obtain ⟨z, hzz⟩ : ∃ z, sizeU c.unit = z := ⟨_, rfl⟩
  rw [hzz] at cZ hB hz
  obtain ⟨dv, hdv⟩ : ∃ d, dayC c n = d := ⟨_, rfl⟩
  rw [hdv] at cD hR
  rw [← shq_shF, shq] at cS cD
  clear hL hzz hdv
  go_enter Tryz.func50, Tryz.ntmps50
  go_wp2_with fail
  go_region_held3 (fun w' => LrS w c w') (first | with_reducible exact HS0.out | with_reducible assumption)
    (first
      | (go_at_call 29; refine (cS.out _ (by assumption)).mono ?_; rintro e w' ⟨rfl, hS⟩)
      | (go_at_call 100; refine (cD.out _ (by assumption)).mono ?_; rintro e w' ⟨rfl, hS⟩))
  cases dv
  · have hfin : Hid (∃ v, (Value.slice none 0 0) = v ∧ w'.ownsRow w.heap.size 3 1 v (rofL c n).length (ints (rofL c n)) ∧ Below w.heap.size w w') := ⟨_, rfl, by rw [hR.out, if_neg (by simp)]; exact World.ownsRow_nil _ _ _ _, hS.2.2.1⟩
    clear hS
    go_wp2
    go_ret
    obtain ⟨v, rfl, h⟩ := hfin.out
    exact ⟨_, rfl, h⟩
  · have HS : Hid (LrS w c w') := by show LrS w c w'; assumption
    have s2 : w'.cell? ⟨w.heap.size, 2, none⟩ = some (.int .u64 (c.m 2 : Nat)) := HS.out.2.1.at 2 rfl
    have s1 : w'.cell? ⟨w.heap.size, 1, none⟩ = some (.int .u64 (c.m 1 : Nat)) := HS.out.2.1.at 1 rfl
    have s0 : w'.cell? ⟨w.heap.size, 0, none⟩ = some (.int .u64 (c.m 0 : Nat)) := HS.out.2.1.at 0 rfl
    rw [if_pos rfl] at hR
    clear cS cD hc
    rename_i hSa hSb hSc
    clear hSc hS hSb
    go_wp2_with fail
    refine (cA.out _).mono ?_
    rintro e w2 ⟨a, m, cap, rfl, hm, hsl, -, hB2⟩
    obtain rfl := hm.out
    have HS2 := hid (HS.out.keep hB2)
    have Hsl := hid hsl
    have hB02 : Hid (Below w.heap.size w w2) := HS.out.2.2.1.trans (hB2.mono (Nat.le_of_lt HS.out.2.2.2))
    clear hsl hm hB2 s0 s1 s2
    go_wp2_with fail
    go_loopw [6, 7, 8] (fun v i _ wr => ∃ (k q cq : Nat) (aq : Option Addr), i = .int .i64 k ∧ k ≤ L.length ∧ v = .slice aq q cq ∧ q ≤ k ∧ Hid (q = ((L.take k).filter (rofB c n)).length) ∧ wr.ownsRow w2.heap.size 3 1 (.slice aq q cq) q (ints ((L.take k).filter (rofB c n))) ∧ Below w2.heap.size w2 wr) (fun _ i _ _ => L.length - (intOf i).toNat)
    case atStart => exact ⟨0, 0, 0, none, rfl, by omega, rfl, by omega, (rfl : (0 : Nat) = 0), World.ownsRow_nil _ _ _ _, Below.refl _ _⟩
    case round =>
      obtain ⟨k, q, cq, aq, rfl, hk, rfl, hqk, Hq, hown, hB9⟩ := hrel
      by_cases hlt : k < L.length
      · obtain ⟨bL, oL, rfl, hbL, hcL⟩ := Hsl.out.atInt hlt
        have es := (hB9.cell (p := ⟨bL, oL + k, none⟩) hbL).trans (hcL k hlt)
        have fx := hbd.out _ (List.getElem_mem hlt)
        have Hsn := hid (filter_snoc (p := rofB c n) hlt)
        obtain ⟨x, hx⟩ : ∃ x, L[k] = x := ⟨_, rfl⟩
        rw [hx] at es fx Hsn
        obtain ⟨fx1, fx2⟩ := fx
        have hp := hB.out x
        obtain ⟨-, -, -, t3, t4⟩ := (HS2.out.2.1.below hB9 HS2.out.2.2.2).tail
        have t0 := (HS2.out.2.1.below hB9 HS2.out.2.2.2).tail.1
        have t1 := (HS2.out.2.1.below hB9 HS2.out.2.2.2).tail.2.1
        have t2 := (HS2.out.2.1.below hB9 HS2.out.2.2.2).tail.2.2.1
        have Hown := hid hown
        have HB := hid hB9
        have hbs : w2.heap.size ≤ wr.heap.size := hB9.size
        rw [betB] at hp
        have Hp := hid hp
        clear hcL hx hown hB9 hp
        by_cases c1 : c.fr ≤ 86400 * n + x
        · by_cases c2 : 86400 * n + x ≤ c.un
          · have Hp2 : Hid (rofB c n x = (decide (z = 0) || onB c.unit c.step c.anchor (86400 * n + x))) := by show _ = _; rw [Hp.out, decide_eq_true c1, decide_eq_true c2]; rfl
            go_wp2_with fail
            refine (cZ.out _).mono ?_
            rintro e w3 ⟨rfl, rfl⟩
            rcases hz with hz | hz
            · have hz0 : (z == 0) = false := by rw [beq_eq_false_iff_ne]; omega
              have cO1 := hid (cO.out (86400 * n + x) wr)
              obtain ⟨on, hon⟩ : ∃ on, onB c.unit c.step c.anchor (86400 * n + x) = on := ⟨_, rfl⟩
              have Hpx : Hid (rofB c n x = on) := by show _ = _; rw [Hp2.out, decide_eq_false (by omega), hon]; rfl
              rw [hon] at cO1
              clear hon
              go_wp2_with fail
              refine cO1.out.mono ?_
              rintro e w3 ⟨rfl, rfl⟩
              cases on
              · have hq1 : Hid (q = ((L.take (k + 1)).filter (rofB c n)).length) := by show q = _; rw [Hsn.out, Hpx.out]; simpa using Hq.out
                have ho1 : Hid (wr.ownsRow w2.heap.size 3 1 (.slice aq q cq) q (ints ((L.take (k + 1)).filter (rofB c n)))) := by show World.ownsRow _ _ _ _ _ _ _; rw [Hsn.out, Hpx.out]; simpa using Hown.out
                go_wp2
                exact ⟨⟨k + 1, q, cq, aq, by go_num, by omega, rfl, by omega, hq1, ho1.out, HB.out⟩, by simp [intOf]; omega⟩
              · go_wp2_with (at_builtin; refine app1 eInt (.tmp 60) (.tmp 65) rfl rfl rfl rfl rfl Hown.out rfl (by omega) (by omega) hbs ?_)
                intro a' cap' w4 hown2 hg2 hb2 hf2
                have hq1 : Hid (q + 1 = ((L.take (k + 1)).filter (rofB c n)).length) := by show q + 1 = _; rw [Hsn.out, Hpx.out, List.length_append, ← Hq.out]; rfl
                have ho1 : Hid (w4.ownsRow w2.heap.size 3 1 (.slice a' (q + 1) cap') (q + 1) (ints ((L.take (k + 1)).filter (rofB c n)))) := by
                  show World.ownsRow _ _ _ _ _ _ _
                  rw [Hsn.out, Hpx.out, if_pos rfl, ints_append, ints_one]; exact hown2
                have HB4 : Hid (Below w2.heap.size w2 w4) := HB.out.trans hb2
                clear hown2 hg2 hb2 hf2
                go_wp2
                exact ⟨⟨k + 1, q + 1, cap', a', by go_num, by omega, rfl, by omega, hq1, ho1.out, HB4.out⟩, by simp [intOf]; omega⟩
            · have hz0 : (z == 0) = true := by rw [hz]; rfl
              have Hpx : Hid (rofB c n x = true) := by show _ = _; rw [Hp2.out, decide_eq_true hz]; rfl
              clear hz
              go_wp2_with (at_builtin; refine app1 eInt (.tmp 60) (.tmp 65) rfl rfl rfl rfl rfl Hown.out rfl (by omega) (by omega) hbs ?_)
              intro a' cap' w4 hown2 hg2 hb2 hf2
              have hq1 : Hid (q + 1 = ((L.take (k + 1)).filter (rofB c n)).length) := by show q + 1 = _; rw [Hsn.out, Hpx.out, List.length_append, ← Hq.out]; rfl
              have ho1 : Hid (w4.ownsRow w2.heap.size 3 1 (.slice a' (q + 1) cap') (q + 1) (ints ((L.take (k + 1)).filter (rofB c n)))) := by
                show World.ownsRow _ _ _ _ _ _ _
                rw [Hsn.out, Hpx.out, if_pos rfl, ints_append, ints_one]; exact hown2
              have HB4 : Hid (Below w2.heap.size w2 w4) := HB.out.trans hb2
              clear hown2 hg2 hb2 hf2
              go_wp2
              exact ⟨⟨k + 1, q + 1, cap', a', by go_num, by omega, rfl, by omega, hq1, ho1.out, HB4.out⟩, by simp [intOf]; omega⟩
          · have Hpx : Hid (rofB c n x = false) := by show _ = _; rw [Hp.out, decide_eq_false c2]; simp
            have hq1 : Hid (q = ((L.take (k + 1)).filter (rofB c n)).length) := by show q = _; rw [Hsn.out, Hpx.out]; simpa using Hq.out
            have ho1 : Hid (wr.ownsRow w2.heap.size 3 1 (.slice aq q cq) q (ints ((L.take (k + 1)).filter (rofB c n)))) := by show World.ownsRow _ _ _ _ _ _ _; rw [Hsn.out, Hpx.out]; simpa using Hown.out
            go_wp2
            exact ⟨⟨k + 1, q, cq, aq, by go_num, by omega, rfl, by omega, hq1, ho1.out, HB.out⟩, by simp [intOf]; omega⟩
        · have Hpx : Hid (rofB c n x = false) := by show _ = _; rw [Hp.out, decide_eq_false c1]; simp
          have hq1 : Hid (q = ((L.take (k + 1)).filter (rofB c n)).length) := by show q = _; rw [Hsn.out, Hpx.out]; simpa using Hq.out
          have ho1 : Hid (wr.ownsRow w2.heap.size 3 1 (.slice aq q cq) q (ints ((L.take (k + 1)).filter (rofB c n)))) := by show World.ownsRow _ _ _ _ _ _ _; rw [Hsn.out, Hpx.out]; simpa using Hown.out
          go_wp2
          exact ⟨⟨k + 1, q, cq, aq, by go_num, by omega, rfl, by omega, hq1, ho1.out, HB.out⟩, by simp [intOf]; omega⟩
      · obtain rfl : k = L.length := by omega
        rw [List.take_length] at Hq hown
        rw [← hR.out] at Hq hown
        have ho1 := hid hown
        clear hown
        go_wp2
        go_ret
        exact ⟨_, rfl, by rw [← Hq.out]; exact owns_base ho1.out hB02.out.size, hB02.out.trans (hB9.mono hB02.out.size)⟩
/-- the seconds of clauses, one behind the other -/
def rofA (l : List Cl) (n : Int) : List Int := l.flatMap fun c => rofL c n
theorem rofA_snoc (l : List Cl) (n : Int) {k : Nat} (h : k < l.length) : rofA (l.take (k + 1)) n = rofA (l.take k) n ++ rofL l[k] n := by
  rw [rofA, take_snoc l k h, List.flatMap_append, rofA]; simp
theorem rofA_len (l : List Cl) (n : Int) : (rofA l n).length ≤ 86400 * l.length := by
  induction l with
  | nil => simp [rofA]
  | cons c l ih => 
    have e : rofA (c :: l) n = rofL c n ++ rofA l n := by simp [rofA]
    rw [e, List.length_append, List.length_cons]
    have := rofL_len c n
    omega
theorem rofA_day {l : List Cl} (hok : ∀ c ∈ l, c.Ok) {n : Int} (h0 : 0 ≤ n) (h1 : n < 146097) : secL (memD (rofA l n)) = secL (dayQ l n) := by
  rw [secL, secL]
  refine sel_congr fun k hk => ?_
  rw [memD, dayQ, Bool.eq_iff_iff, decide_eq_true_eq, List.any_eq_true, rofA, List.mem_flatMap]
  constructor
  · rintro ⟨c, hc, h⟩
    exact ⟨c, hc, (rofL_mem (hok c hc) h0 h1 hk).1 h⟩
  · rintro ⟨c, hc, h⟩
    exact ⟨c, hc, (rofL_mem (hok c hc) h0 h1 hk).2 h⟩
theorem ints_one1 (l : List Int) : ∀ u ∈ ints l, u.oneCell' = true := by
  intro u hu
  simp only [ints, List.mem_map] at hu
  obtain ⟨_, _, rfl⟩ := hu; rfl
set_option maxRecDepth 100000 in
set_option maxHeartbeats 3200000 in
theorem RLapAll16_any (a : Option Addr) (cap : Nat) (l : List Cl) (n : Int) (w : World) (hl : l.length ≤ 1000) (hs : Sl w a (cls l)) (hok : ∀ c ∈ l, c.Ok) (h0 : 0 ≤ n) (h1 : n < 146097) :
    Calls Tryz.prog 26 #[.slice a l.length cap, .int .i64 n] w fun e w' => ∃ v, e = .returned v ∧ w'.ownsRow w.heap.size 3 1 v (secL (dayQ l n)).length (ints (secL (dayQ l n))) ∧ Below w.heap.size w w' := by
  have cR := hid (fun (c : Cl) (hc : c.Ok) W => own_ret (RLap16_any c n W hc h0 h1))
  have cF := hid (fun a cap (L : List Int) W hl hs => ROf15_any a cap L W hl hs)
  have hE := hid (rofA_day hok h0 h1)
  have hlen := rofA_len l n
  have Hok := hid hok
  have Hs := hid hs
  clear hok hs
  go_enter Tryz.func26, Tryz.ntmps26
  go_wp2_with fail
  go_loopw [5, 6] (fun v i wr => ∃ (k q cq : Nat) (aq : Option Addr), i = .int .i64 k ∧ k ≤ l.length ∧ v = .slice aq q cq ∧ q ≤ 86400 * k ∧ Hid (q = (rofA (l.take k) n).length) ∧ wr.ownsRow w.heap.size 3 1 (.slice aq q cq) q (ints (rofA (l.take k) n)) ∧ Below w.heap.size w wr) (fun _ i _ => l.length - (intOf i).toNat)
  case atStart => exact ⟨0, 0, 0, none, rfl, by omega, rfl, by omega, (rfl : (0 : Nat) = 0), World.ownsRow_nil _ _ _ _, Below.refl _ _⟩
  case round =>
    obtain ⟨k, q, cq, aq, rfl, hk, rfl, hqk, Hq, hown, hB9⟩ := hrel
    by_cases hlt : k < l.length
    · obtain ⟨b, off, rfl, hbk, hr⟩ := Hs.out.atCl hlt
      have hr' := range_below hr hB9 hbk
      have Hsn := hid (rofA_snoc l n hlt)
      have hck := Hok.out _ (List.getElem_mem hlt)
      have hlk := rofL_len l[k] n
      obtain ⟨c, hc⟩ : ∃ c, l[k] = c := ⟨_, rfl⟩
      rw [hc] at hr' Hsn hck hlk
      have le := ld_at hr'
      have c1 := hid (cR.out c hck wr)
      have Hown := hid hown
      have HB := hid hB9
      have hbs : w.heap.size ≤ wr.heap.size := hB9.size
      obtain ⟨R, hR⟩ : ∃ R, rofL c n = R := ⟨_, rfl⟩
      rw [hR] at c1 Hsn hlk
      clear hr hr' hc hck hown hB9 hR
      go_wp2_with fail
      refine c1.out.mono ?_
      rintro e w2 ⟨a2, m, cap2, rfl, hm, hsl, ho2, hB2⟩
      obtain rfl := hm.out
      have Hl1 : Hid ((ints R).length = R.length * 1) := by show _ = _; rw [ints_length, Nat.mul_one]
      have Hsl := hid hsl
      have Hnone := hid (owns_none ho2)
      have Hown2 := hid (owns_below Hown.out hB2 (Nat.le_refl _))
      have HB2 := hid (HB.out.trans (hB2.mono hbs))
      have hbs2 : w.heap.size ≤ w2.heap.size := Nat.le_trans hbs hB2.size
      clear hsl ho2 hB2 hm le
      go_wp2_with (at_builtin; refine appN eInt (.tmp 13) (.tmp 19) rfl rfl rfl rfl Hown2.out Hl1.out Hsl.out Hnone.out (ints_one1 _) (by omega) (by omega) hbs2 ?_)
      intro a' cap' w4 hown2 hg2 hb2 hf2
      have hq1 : Hid (q + R.length = (rofA (l.take (k + 1)) n).length) := by show _ = _; rw [Hsn.out, List.length_append, ← Hq.out]
      have ho1 : Hid (w4.ownsRow w.heap.size 3 1 (.slice a' (q + R.length) cap') (q + R.length) (ints (rofA (l.take (k + 1)) n))) := by
        show World.ownsRow _ _ _ _ _ _ _
        rw [Hsn.out, ints_append]; exact hown2
      have HB4 : Hid (Below w.heap.size w w4) := HB2.out.trans hb2
      clear hown2 hg2 hb2 hf2
      go_wp2
      exact ⟨⟨k + 1, q + R.length, cap', a', by go_num, by omega, rfl, by omega, hq1, ho1.out, HB4.out⟩, by simp [intOf]; omega⟩
    · obtain rfl : k = l.length := by omega
      rw [List.take_length] at Hq hown
      have c2 := hid (cF.out aq cq (rofA l n) wr (by omega) (owns_sl hown))
      rw [hE.out, ← Hq.out] at c2
      have HB := hid hB9
      clear hown hB9
      go_wp2_with fail
      refine c2.out.mono ?_
      rintro e w4 ⟨v, rfl, ho, hB4⟩
      have ho1 := hid (owns_base ho HB.out.size)
      have HB4 := hid (HB.out.trans (hB4.mono HB.out.size))
      clear ho hB4
      go_wp2
      go_ret
      exact ⟨_, rfl, ho1.out, HB4.out⟩
end Go.Proofs.YtcbanlgnanihhaaGreatDoor
namespace Go.Proofs.YtcbanlgnanihhaaGreatDoor
open Go.RowKit Go.Maps
set_option linter.unusedVariables false

theorem at_again {W0 W1 W2 W3 : World} {cs : List Cl} {bk : Nat} {n : Int} {ws ws2 ws3 : Nat → Bool} {m m2 m3 : Nat} (h1 : AtStep cs n ws m ws2 m2) (x1 : AtX W0 cs bk n m W1 m2) (hb : W2.heap[bk]? = W1.heap[bk]?)
    (h2 : AtStep cs n ws2 m2 ws3 m3) (x2 : AtX W2 cs bk n m2 W3 m3) : m3 = m2 := by
  rcases h1 with ⟨a, -, -⟩ | ⟨a, w, e, -⟩ | ⟨a, w, -, -⟩
  · rcases h2 with ⟨-, -, e⟩ | ⟨b, -⟩ | ⟨b, -⟩
    · exact e
    · exact absurd a b
    · exact absurd a b
  · rcases h2 with ⟨b, -⟩ | ⟨-, -, -, e2⟩ | ⟨-, v, -⟩
    · exact absurd b a
    · rw [e2, e]; simp
    · rw [w] at v; cases v
  · exact (x2 a w).2 ((x1 a w).1.block hb)
theorem at_more {cs : List Cl} {n : Int} {ws ws2 : Nat → Bool} {m m2 : Nat} (h1 : AtStep cs n ws m ws2 m2) : m2 ≤ m + 1 ∧ m ≤ m2 := by
  rcases h1 with ⟨-, -, e⟩ | ⟨-, -, -, e⟩ | ⟨-, -, -, e | e⟩
  · omega
  · rw [e]; split <;> omega
  · omega
  · omega
theorem owns_eff {w w' : World} {O : Blk} {base : Nat} {e : TypeId} {s : Nat} {v : Value} {n : Nat} {xs : List Value} (h : w.ownsRow base e s v n xs) (hE : Eff O w w') (hO : ∀ b, O b → b < base) : w'.ownsRow base e s v n xs :=
  owns_agree h fun b hb => hE.block b (owns_lt h hb).2 (fun ho => by have := hO b ho; have := (owns_lt h hb).1; omega)
/-- the roll of a set, on the way: few discs are made -/
def RdS (w : World) (l : List Cl) (br bk : Nat) (bps : List Nat) (k : Nat) (wr : World) : Prop := ∃ F ws m, RollS wr l br bk bps F ws m ∧ m ≤ k ∧ Below w.heap.size w wr
theorem RdS.below {w wr w' : World} {l : List Cl} {br bk : Nat} {bps : List Nat} {k : Nat} (h : RdS w l br bk bps k wr) (hB : Below wr.heap.size wr w') : RdS w l br bk bps k w' := by
  obtain ⟨F, ws, m, h1, h2, h3⟩ := h
  exact ⟨F, ws, m, h1.below hB, h2, h3.trans (hB.mono h3.size)⟩
def u32s (l : List Nat) : List Value := l.map fun k => .int .u32 (k : Nat)
theorem u32s_len (l : List Nat) : (u32s l).length = l.length := by simp [u32s]
theorem Sl.at32 {w : World} {a : Option Addr} {l : List Nat} (h : Sl w a (u32s l)) {k : Nat} (hk : k < l.length) :
    ∃ b off, a = some ⟨b, off, none⟩ ∧ b < w.heap.size ∧ w.cell? ⟨b, off + k, none⟩ = some (.int .u32 (l[k] : Nat)) := by
  obtain ⟨b, off, rfl, hlt, hc⟩ := Sl.at h (k := k) (by rw [u32s_len]; exact hk)
  refine ⟨b, off, rfl, hlt, ?_⟩
  rw [hc k (by rw [u32s_len]; exact hk)]
  simp [u32s]
set_option maxRecDepth 100000 in
set_option maxHeartbeats 6400000 in
theorem RollDays_walk (a : Option Addr) (cap : Nat) (l : List Cl) (b : Option Addr) (capb : Nat) (ds : List Nat) (w : World) (hl : l.length ≤ 9223372036854775807) (hlc : l.length ≤ cap) (hs : Sl w a (cls l)) (hno : a = none → cap = 0) (hok : ∀ c ∈ l, c.Ok)
    (hdl : ds.length ≤ 9223372036854775807) (hsd : Sl w b (u32s ds)) (hd32 : ∀ x ∈ ds, x < 4294967296) (hT : Tab w) :
    Calls Tryz.prog 5 #[.slice a l.length cap, .slice b ds.length capb] w fun e w' => e = .returned (.bool true) ∧ Below w.heap.size w w' := by
  have cL := hid (fun W (hB : Below w.heap.size w W) => Lives18_any W (hT.later hB))
  have Fin := hid (fun W (hB : Below w.heap.size w W) W' (hB' : Below W.heap.size W W') => hB.trans (hB'.mono hB.size))
  by_cases h20 : 20 < l.length
  · have cL0 := hid (cL.out w (Below.refl _ _))
    clear hs hno hok hsd hd32 hT
    go_enter Tryz.func5, Tryz.ntmps5
    go_wp2_with fail
    refine cL0.out.mono ?_
    rintro e w' ⟨rfl, hB⟩
    have HB := hid hB
    clear hB
    go_wp2
    go_ret
    exact ⟨rfl, HB.out⟩
  by_cases h12 : 12 < ds.length
  · have cL0 := hid (cL.out w (Below.refl _ _))
    clear hs hno hok hsd hd32 hT
    go_enter Tryz.func5, Tryz.ntmps5
    go_wp2_with fail
    refine cL0.out.mono ?_
    rintro e w' ⟨rfl, hB⟩
    have HB := hid hB
    clear hB
    go_wp2
    go_ret
    exact ⟨rfl, HB.out⟩
  have cN := hid (RNew_any a cap l w hl hlc hs hno hok hT)
  have cO := hid (fun W (hB : Below w.heap.size w W) => IOf_any a cap l W hl hlc (hs.below hB) hno hok)
  have HT := hid hT
  have Hs := hid hs
  have Hok := hid hok
  have Hsd := hid hsd
  have Hd32 := hid hd32
  clear hs hno hok hsd hd32 hT
  go_enter Tryz.func5, Tryz.ntmps5
  go_wp2_with fail
  refine cN.out.mono ?_
  rintro e w1 ⟨hN, hB1⟩
  rcases hN with ⟨hX, rfl⟩ | ⟨hX, br, bk, bps, rfl, hR, hM⟩
  · have c2 := hid (cO.out w1 hB1)
    have HB1 := hid hB1
    have hbx : Hid (∀ W, Below w1.heap.size w1 W → Below w.heap.size w W) := fun W hB => HB1.out.trans (hB.mono HB1.out.size)
    obtain ⟨X, hXe⟩ : ∃ X, faultL l = X := ⟨_, rfl⟩
    rw [hXe] at hX ⊢
    have hX0 : (X == 0) = false := by simpa using hX
    have HXe := hid hXe
    clear hX hB1 hXe
    go_wp2_with fail
    refine c2.out.mono ?_
    rintro e w2 ⟨⟨v, rfl, -⟩, hB2⟩
    rw [HXe.out]
    have HB2 := hid (hbx.out w2 hB2)
    have d1 := hid (RMade0_any w2)
    have d2 := hid (RCls0_any w2)
    have d3 := hid (RollDayNil_any 0 w2)
    clear hB2
    go_wp2_with fail
    refine d1.out.mono ?_
    rintro e w3 ⟨rfl, rfl⟩
    go_wp2_with fail
    refine d2.out.mono ?_
    rintro e w3 ⟨rfl, rfl⟩
    go_wp2_with fail
    refine d3.out.mono ?_
    rintro e w3 ⟨rfl, hB3⟩
    have HB3 := hid (HB2.out.trans (hB3.mono HB2.out.size))
    have d4 := hid (DLenO_any none (fun _ => false) w3 (fun _ _ => rfl))
    have e0 : ((secL fun _ => false).length : Int) = 0 := by rw [secL, sel_none (fun _ _ => rfl)]; rfl
    rw [e0] at d4
    clear hB3 e0
    go_wp2_with fail
    refine d4.out.mono ?_
    rintro e w4 ⟨rfl, rfl⟩
    have d5 := hid (cL.out _ HB3.out)
    go_wp2_with fail
    refine d5.out.mono ?_
    rintro e w5 ⟨rfl, hB5⟩
    have HB5 := hid (HB3.out.trans (hB5.mono HB3.out.size))
    clear hB5
    go_wp2
    go_ret
    exact ⟨rfl, HB5.out⟩
  · have c2 := hid (cO.out w1 hB1)
    have HB1 := hid hB1
    have HM := hid hM
    have hbx : Hid (∀ W, Below w1.heap.size w1 W → Below w.heap.size w W) := fun W hB => HB1.out.trans (hB.mono HB1.out.size)
    have hX' : faultL l = 0 := hX
    have HX := hid hX'
    have HR1 := hid hR
    clear hX hX' hB1 hM hR
    go_wp2_with fail
    refine c2.out.mono ?_
    rintro e w2 ⟨⟨v, rfl, -⟩, hB2⟩
    rw [HX.out]
    have HB2 := hid (hbx.out w2 hB2)
    have HR2 := hid (HR1.out.below hB2)
    have d2 := hid (RCls_any HR2.out)
    clear hB2
    go_wp2_with fail
    refine d2.out.mono ?_
    rintro e w3 ⟨⟨v3, rfl, hO3⟩, hB3⟩
    obtain ⟨a3, c3, rfl, -, -⟩ := owns_form hO3
    have HB3 := hid (HB2.out.trans (hB3.mono HB2.out.size))
    have HR3 := hid (HR2.out.below hB3)
    have d3 := hid (RollDayOut_any (.pointer (some ⟨br, 0, none⟩)) (-1) w3 (.inl (by decide)))
    have nB : (l.length != l.length) = false := by simp
    clear hB3 hO3
    go_wp2_with fail
    refine d3.out.mono ?_
    rintro e w4 ⟨rfl, hB4⟩
    have HB4 := hid (HB3.out.trans (hB4.mono HB3.out.size))
    have HR4 := hid (HR3.out.below hB4)
    have e0 : ((secL fun _ => false).length : Int) = 0 := by rw [secL, sel_none (fun _ _ => rfl)]; rfl
    have E0 := hid e0
    have d4 := hid (fun w => DLenO_any none (fun _ => false) w (fun _ _ => rfl))
    rw [e0] at d4
    clear hB4 e0
    go_wp2_with fail
    refine (d4.out _).mono ?_
    rintro e w5 ⟨rfl, rfl⟩
    have d6 := hid (RollDayOut_any (.pointer (some ⟨br, 0, none⟩)) 146097 w4 (.inr (by decide)))
    go_wp2_with fail
    refine d6.out.mono ?_
    rintro e w6 ⟨rfl, hB6⟩
    have HB6 := hid (HB4.out.trans (hB6.mono HB4.out.size))
    have HR6 := hid (HR4.out.below hB6)
    clear hB6
    go_wp2_with fail
    refine (d4.out _).mono ?_
    rintro e w7 ⟨rfl, rfl⟩
    have d7 := hid (RMadeN_any HR6.out)
    go_wp2_with fail
    refine d7.out.mono ?_
    rintro e w7 ⟨rfl, rfl⟩
    have HS0 : Hid (RdS w l br bk bps 0 w6) := ⟨_, _, _, HR6.out, Nat.le_refl _, HB6.out⟩
    have hd12 : ds.length ≤ 12 := by omega
    clear HR6 HB6 HB4 HR4 HB3 HR3 HB2 HR2 HB1 HR1 d2 d3 d4 d6 d7 hbx
    go_wp2_with fail
    go_loopw [9, 10, 11] (fun i _ _ wr => ∃ k : Nat, i = .int .i64 k ∧ k ≤ ds.length ∧ Hid (RdS w l br bk bps k wr)) (fun i _ _ _ => ds.length - (intOf i).toNat)
    case atStart => exact ⟨0, rfl, by omega, HS0⟩
    case round =>
      obtain ⟨k, rfl, hk, HS⟩ := hrel
      by_cases hlt : k < ds.length
      · obtain ⟨bd, od, rfl, hbd, hcd⟩ := Hsd.out.at32 hlt
        have hx := Hd32.out _ (List.getElem_mem hlt)
        obtain ⟨F, ws, m, hR, hm, hB⟩ := HS.out
        have es := (hB.cell (p := ⟨bd, od + k, none⟩) hbd).trans hcd
        obtain ⟨x, hxe⟩ : ∃ x, ds[k] = x := ⟨_, rfl⟩
        rw [hxe] at hx es
        have HR := hid hR
        have HB := hid hB
        have n0 : 0 ≤ (x : Int) % 146097 := by omega
        have n1 : (x : Int) % 146097 < 146097 := by omega
        have cA := hid (RLapAll16_any a cap l ((x : Int) % 146097) wr (by omega) (Hs.out.below hB) Hok.out n0 n1)
        have hQl := secL_len (dayQ l ((x : Int) % 146097))
        have N01 := hid (And.intro n0 n1)
        have hEn : Hid (∃ n : Int, (x : Int) % 146097 = n) := ⟨_, rfl⟩
        clear hcd hxe hR hB
        go_wp2_with fail
        obtain ⟨n, hn⟩ := hEn.out
        rw [hn] at cA N01 n0 n1 hQl ⊢
        have h8 : l.length ≤ 8 := by have := HR.out.x.may; rw [mayL, Bool.and_eq_true, decide_eq_true_eq] at this; exact this.1
        have H8 := hid h8
        clear hn hEn n0 n1 h8
        refine cA.out.mono ?_
        rintro e w2 ⟨v2, rfl, ho2, hB2⟩
        obtain ⟨a2, c2, rfl, -, -⟩ := owns_form ho2
        have HO2 := hid ho2
        have HB2 := hid (HB.out.trans (hB2.mono HB.out.size))
        have HR2 := hid (HR.out.below hB2)
        have dD := hid (RollDay2_any n N01.out.1 N01.out.2 (by omega) HR2.out)
        clear ho2 hB2
        go_wp2_with fail
        refine dD.out.mono ?_
        rintro e w3 ⟨d, F3, ws3, m3, rfl, hR3, hG3, hE3, hst3, hn3, hs3, hx3⟩
        have HB3 := hid (HB2.out.trans (hE3.below HM.out HB2.out.size))
        have HO3 := hid (owns_eff HO2.out hE3 (fun b hb => HR.out.x.lt b (HR.out.x.sub b hb)))
        have dS := hid (Same18_any d (dayQ l n) a2 c2 (secL (dayQ l n)) w3 (by omega) (owns_sl HO3.out) (HT.out.later HB3.out) (day_disc H8.out N01.out.1 N01.out.2 hn3 hs3))
        rw [decide_eq_true rfl] at dS
        have HR3 := hid hR3
        have HA3 := hid (And.intro hst3 hx3)
        have hm3 := (at_more hst3).1
        obtain ⟨vd, hvd⟩ : ∃ v, dptr d = v := ⟨_, rfl⟩
        rw [hvd] at dS ⊢
        clear hR3 hG3 hE3 hst3 hn3 hs3 hx3 hvd dD cA
        go_wp2_with fail
        refine dS.out.mono ?_
        rintro e w4 ⟨rfl, hB4⟩
        have HB34 := hid hB4
        have HB4 := hid (HB3.out.trans (hB4.mono HB3.out.size))
        have HO4 := hid (owns_below HO3.out hB4 (Nat.le_refl _))
        have dH := hid (RShape_any n w4 N01.out.1 N01.out.2)
        have dA := hid (fun W (hB : Below w4.heap.size w4 W) => RAt2_any n N01.out.1 N01.out.2 (by omega) ((HR3.out.below HB34.out).below hB))
        rw [← shq_shF] at dH dA
        obtain ⟨s, hs⟩ : ∃ s, shF n = s := ⟨_, rfl⟩
        rw [hs, shq] at dH dA
        clear hB4 hs dS
        go_wp2_with fail
        refine dH.out.mono ?_
        rintro e w5 ⟨rfl, hB5⟩
        have HB5 := hid (HB4.out.trans (hB5.mono HB4.out.size))
        have HO5 := hid (owns_below HO4.out hB5 (Nat.le_refl _))
        have dA5 := hid (dA.out w5 hB5)
        have HB35 := hid (HB34.out.trans (hB5.mono HB34.out.size))
        clear hB5 dA dH
        go_wp2_with fail
        refine dA5.out.mono ?_
        rintro e w6 ⟨d6, F6, ws6, m6, rfl, hR6, hG6, hE6, hst6, hn6, hs6, hx6⟩
        have hm6 : m6 = m3 := at_again HA3.out.1 HA3.out.2 (HB35.out.block bk HR3.out.known.lt) hst6 hx6
        have HB6 := hid (HB5.out.trans (hE6.below HM.out HB5.out.size))
        have HO6 := hid (owns_eff HO5.out hE6 (fun b hb => HR.out.x.lt b (HR.out.x.sub b hb)))
        have dS := hid (Same18_any d6 (dayQ l n) a2 c2 (secL (dayQ l n)) w6 (by omega) (owns_sl HO6.out) (HT.out.later HB6.out) (day_disc H8.out N01.out.1 N01.out.2 hn6 hs6))
        rw [decide_eq_true rfl] at dS
        rw [hm6] at hR6
        have HR6 := hid hR6
        obtain ⟨vd6, hvd6⟩ : ∃ v, dptr d6 = v := ⟨_, rfl⟩
        rw [hvd6] at dS ⊢
        clear hR6 hG6 hE6 hst6 hn6 hs6 hx6 hvd6 dA5 hm6
        go_wp2_with fail
        refine dS.out.mono ?_
        rintro e w7 ⟨rfl, hB7⟩
        have HB7 := hid (HB6.out.trans (hB7.mono HB6.out.size))
        have HR7 := hid (HR6.out.below hB7)
        have dM := hid (RMadeN_any HR7.out)
        have hmk : (m3 : Int) ≤ k + 1 := by omega
        clear hB7 dS
        go_wp2_with fail
        refine dM.out.mono ?_
        rintro e w8 ⟨rfl, rfl⟩
        have HSn : Hid (RdS w l br bk bps (k + 1) w7) := ⟨_, _, _, HR7.out, by omega, HB7.out⟩
        go_wp2
        exact ⟨⟨k + 1, by go_num, by omega, HSn⟩, by simp [intOf]; omega⟩
      · obtain rfl : k = ds.length := by omega
        obtain ⟨F, ws, m, hR, hm, hB⟩ := HS.out
        have d5 := hid (cL.out wr hB)
        have HB := hid hB
        clear hR hm hB
        go_wp2_with fail
        refine d5.out.mono ?_
        rintro e w5 ⟨rfl, hB5⟩
        have HB5 := hid (HB.out.trans (hB5.mono HB.out.size))
        clear hB5
        go_wp2
        go_ret
        exact ⟨rfl, HB5.out⟩
end Go.Proofs.YtcbanlgnanihhaaGreatDoor
namespace Go.Proofs.YtcbanlgnanihhaaGreatDoor
open Go.ChangeShapes Go.WideShapes Go.ChangeAt Go.RowKit
set_option linter.unusedVariables false

theorem ownKnobNone : ownKnob Tryz.prog.godebug = none := by kernel_rfl
theorem laidOut : laidOutB Tryz.prog = true := by kernel_rfl
theorem gTab : Tryz.prog.globalNamed "math/bits.deBruijn64tab" = some 0 := by kernel_rfl
theorem gTabType : (Tryz.prog.globals[0]?).map (·.type) = some 199 := by kernel_rfl
theorem cellsTab : Tryz.prog.cellsOf 199 = 64 := by kernel_rfl
theorem cellsU8 : Tryz.prog.cellsOf 5 = 1 := by kernel_rfl
theorem leafInt : leaves Tryz.prog 4 3 = some [.int .i64] := by kernel_rfl
theorem cellsInt : Tryz.prog.cellsOf 3 = 1 := by kernel_rfl
theorem leafU64 : leaves Tryz.prog 4 26 = some [.int .u64] := by kernel_rfl
theorem cellsU64 : Tryz.prog.cellsOf 26 = 1 := by kernel_rfl

def tabInts : List Int := Lib.deBruijn64tab.map fun (n : Nat) => (n : Int)
theorem tabInts_get : ∀ i, i < 64 → tabInts.getD i 0 = ((Lib.deBruijn64tab.getD i 0 : Nat) : Int) := by decide
theorem tab_of {W : World} (h : laidMetH Tryz.prog [("math/bits.deBruijn64tab", Rows.laid_math_bits_deBruijn64tab)] W) : Tab W := by
  have ht : Lib.TabIs Tryz.prog W "math/bits.deBruijn64tab" .u8 tabInts := Lib.tabIs_of_head (rest := []) gTab gTabType Tryz.underlying199 Tryz.underlying5 cellsU8 cellsTab h
  have hc : ∀ i, i < 64 → W.cell? ⟨0, i, none⟩ = some (.int .u8 (tabInts.getD i 0)) := fun i hi => ht.cell gTab i hi
  exact ⟨Nat.lt_of_le_of_lt (Nat.zero_le _) (World.block_lt_of_cell? W _ (hc 0 (by omega))), fun i hi => by rw [hc i hi, tabInts_get i hi]⟩

/-- A world for the witnesses: the settled one, the table holding what its initialiser lays. -/
noncomputable def laidWorld (os : Os) : World :=
  { World.holding Tryz.prog os ⟨#[], #[], []⟩ with heap := (World.holding Tryz.prog os ⟨#[], #[], []⟩).heap.modify 0 fun
      | .cells _ t frozen => .cells (tabInts.map (Value.int .u8)).toArray t frozen
      | o => o }

/-- ints that came in -/
theorem open_ints' {H : Type} {enc : TypeId × Value → H} {W : World} {a : Option Addr} {len cap : Nat} {d : DataW H} {p : List MemPlace} (h : DataW.Trod enc Tryz.prog W 0 (fun _ => true) true 58 (.slice a len cap) d p) :
    ∃ l : List Int, len = l.length ∧ l.length ≤ cap ∧ cap ≤ maxLen ∧ Sl W a (ints l) ∧ (a = none → cap = 0) ∧ ∀ x ∈ l, -9223372036854775808 ≤ x ∧ x ≤ 9223372036854775807 := by
  obtain ⟨fuel, hf⟩ := h
  obtain ⟨a', n, cap', cells, e, h1, h2, h3, h4, h6, h5⟩ := open_flat Tryz.underlying58 leafInt cellsInt.symm (by decide) (v := .slice a len cap) (by simpa [Value.cells] using hf)
  cases e
  obtain ⟨l, rfl, hll, hw⟩ := oks_ints h3 h5
  subst hll
  exact ⟨l, rfl, h1, h2, h4, h6, hw⟩
end Go.Proofs.YtcbanlgnanihhaaGreatDoor
namespace Go.Proofs.YtcbanlgnanihhaaGreatDoor
open Go.ChangeShapes Go.WideShapes Go.ChangeAt Go.RowKit
set_option linter.unusedVariables false

theorem wf_u32 {n : Int} (h : (Lit.int .u32 n).wf = true) : ∃ k : Nat, n = k ∧ k < 4294967296 := by
  have h1 : IntKind.u32.min = 0 := by decide
  have h3 : IntKind.u32.max = 4294967295 := by decide
  have h2 := h
  simp [Lit.wf, h1, h3] at h2
  exact ⟨n.toNat, by omega, by omega⟩
theorem leafU32 : leaves Tryz.prog 4 23 = some [.int .u32] := by kernel_rfl
theorem cellsU32 : Tryz.prog.cellsOf 23 = 1 := by kernel_rfl
theorem oks_u32l : ∀ {cells : List Value} {n : Nat}, cells.length = n * 1 → (∀ i, i < n → oks [.int .u32] ((cells.drop (i * 1)).take 1)) → ∃ l : List Nat, cells = l.map (fun k => Value.int .u32 (k : Nat)) ∧ l.length = n ∧ ∀ x ∈ l, x < 4294967296
  | [], n, h, _ => ⟨[], rfl, by simp at h; simp [h], by simp⟩
  | v :: cells, 0, h, _ => by simp at h
  | v :: cells, n + 1, h, hk => by
    obtain ⟨l, e, hl, hb⟩ := oks_u32l (cells := cells) (n := n) (by simp at h ⊢; omega) (fun i hi => by have := hk (i + 1) (by omega); simpa using this)
    have h0 := hk 0 (by omega)
    simp at h0
    obtain ⟨⟨y, rfl, hw⟩, _⟩ := h0
    obtain ⟨x, rfl, hx⟩ := wf_u32 hw
    exact ⟨x :: l, by rw [e]; rfl, by simp [hl], fun y hy => by
      rcases List.mem_cons.1 hy with rfl | hy
      · exact hx
      · exact hb y hy⟩
theorem open_u32s' {H : Type} {enc : TypeId × Value → H} {W : World} {a : Option Addr} {len cap : Nat} {d : DataW H} {p : List MemPlace} (h : DataW.Trod enc Tryz.prog W 0 (fun _ => true) true 56 (.slice a len cap) d p) :
    ∃ l : List Nat, len = l.length ∧ l.length ≤ cap ∧ cap ≤ maxLen ∧ Sl W a (l.map (fun k => Value.int .u32 (k : Nat))) ∧ (a = none → cap = 0) ∧ ∀ x ∈ l, x < 4294967296 := by
  obtain ⟨fuel, hf⟩ := h
  obtain ⟨a', n, cap', cells, e, h1, h2, h3, h4, h6, h5⟩ := open_flat Tryz.underlying56 leafU32 cellsU32.symm (by decide) (v := .slice a len cap) (by simpa [Value.cells] using hf)
  cases e
  obtain ⟨l, rfl, hll, hw⟩ := oks_u32l h3 h5
  subst hll
  exact ⟨l, rfl, h1, h2, h4, h6, hw⟩
theorem oks_two32 : ∀ {cs : List Value}, oks [.int .u32, .int .u32] cs → ∃ x y : Nat, cs = [.int .u32 (x : Nat), .int .u32 (y : Nat)] ∧ x < 4294967296 ∧ y < 4294967296
  | [_, _], ⟨⟨x, rfl, hx⟩, ⟨y, rfl, hy⟩, _⟩ => by
    obtain ⟨x, rfl, gx⟩ := wf_u32 hx
    obtain ⟨y, rfl, gy⟩ := wf_u32 hy
    exact ⟨x, y, rfl, gx, gy⟩
end Go.Proofs.YtcbanlgnanihhaaGreatDoor

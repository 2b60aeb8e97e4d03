/-
  ferialaw18.RollKnows answers true for every clauses and day.
  The table of math/bits that this seat's rows list: what a row's premise gives of it, and a world that holds it.
  Shapes that are the same; the bounds of a day's shape.
-/
import Derived.Test.YtcbanlgnanihhaaGreatDoorQc3d5bc
import Derived.Test.YtcbanlgnanihhaaGreatDoorQc4ae33
import Derived.Test.YtcbanlgnanihhaaGreatDoorCards
import Derived.Test.YtcbanlgnanihhaaGreatDoorTie
import Derived.Test.YtcbanlgnanihhaaGreatDoorQ929fef
import Derived.Test.YtcbanlgnanihhaaGreatDoorQ490b88
import Derived.Deep.DeepHandedRow
import Derived.Lib.LaidTab
import Derived.Test.YtcbanlgnanihhaaGreatDoorQ2640f5
import Derived.Test.YtcbanlgnanihhaaGreatDoorQ6cb819
namespace Go.Proofs.YtcbanlgnanihhaaGreatDoor
open Go.RowKit Go.Maps
set_option linter.unusedVariables false

theorem clB_set' {W : World} {b : Nat} {F G : Cl} {k : Nat} {u : Value} (h : ClB W b F) (hk : k < 30) (e : clList G = (clList F).set k u) : ClB (W.setCell ⟨b, k, none⟩ u) b G := by
  have h6 := h.at k (List.getElem?_eq_getElem (show k < (clList F).length from hk))
  intro j v hv
  by_cases hj : j = k
  · subst hj
    have hv' : u = v := by
      rw [e, List.getElem?_set_self (show j < (clList F).length from hk)] at hv
      simpa using hv
    rw [← hv', Nat.zero_add]
    exact World.cell?_setCell_same _ _ _ (by rw [h6])
  · rw [e, List.getElem?_set_ne (by omega)] at hv
    rw [World.cell?_setCell_other _ _ _ _ (by intro e; injection e with _ e2 _; exact hj (by omega))]
    exact h j v hv
theorem frozen_setCells' (a : Addr) (b : Nat) : ∀ (vs : List Value) (o : Nat) (W : World), (W.setCells b o vs).frozen? a = W.frozen? a
  | [], _, _ => rfl
  | v :: vs, o, W => by rw [World.setCells, frozen_setCells' a b vs (o + 1)]; simp [go_sem]
/-- a clause of nothing but a step -/
def stpCl : Cl := { m := fun _ => 0, or := false, oin := 0, oback := false, od := fun _ => 0, ys := fun _ => 0, unit := 0, step := 2, anchor := 0, fr := 0, un := 0 }
theorem stp_ok : stpCl.Ok := by
  have z : i64B 0 := ⟨by decide, by decide⟩
  exact ⟨fun _ _ => (show (0 : Nat) < 18446744073709551616 by decide), fun _ _ => (show (0 : Nat) < 18446744073709551616 by decide), fun _ _ => (show (0 : Nat) < 18446744073709551616 by decide), z, z, ⟨by decide, by decide⟩, z, z, z⟩
theorem stp_two : [stpCl, fullCl].countP stpB = 1 := by kernel_rfl
theorem pow_le {k : Nat} (h : k ≤ 8) : 2 ^ k ≤ 256 := by
  have := Nat.pow_le_pow_right (n := 2) (by omega) h
  simpa using this
/-- the roll of such a set, on the way -/
def KnS (w : World) (cs : List Cl) (br bk : Nat) (bps : List Nat) (n0 : Int) (k : Nat) (wr : World) : Prop := ∃ F ws m, RollS wr cs br bk bps F ws m ∧ KnI cs n0 k ws m ∧ Below w.heap.size w wr
theorem cls_snoc (l : List Cl) (c : Cl) : cls (l ++ [c]) = cls l ++ clList c := by
  rw [cls, cls, List.flatMap_append]; simp
attribute [local go_sem ↓] loadAt_cl storeAt_cl
attribute [local go_sem] run_storeClS
set_option maxRecDepth 100000 in
set_option maxHeartbeats 12800000 in
theorem RollKnows_walk (a : Option Addr) (cap : Nat) (l : List Cl) (x : Nat) (w : World) (hl : l.length ≤ 9223372036854775807) (hlc : l.length ≤ cap) (hs : Sl w a (cls l)) (hno : a = none → cap = 0) (hok : ∀ c ∈ l, c.Ok) (hx : x < 4294967296) (hT : Tab w) :
    Calls Tryz.prog 3 #[.slice a l.length cap, .int .u32 (x : Nat)] w fun e w' => e = .returned (.bool true) ∧ Below w.heap.size w w' := by
  have cL := hid (fun W (hB : Below w.heap.size w W) => Lives18_any W (hT.later hB))
  by_cases h8 : 8 < l.length
  · have cL0 := hid (cL.out w (Below.refl _ _))
    clear hs hno hok hT
    go_enter Tryz.func3, Tryz.ntmps3
    go_wp2_with fail
    refine cL0.out.mono ?_
    rintro e w' ⟨rfl, hB⟩
    have HB := hid hB
    clear hB
    go_wp2
    go_ret
    exact ⟨rfl, HB.out⟩
  have cM := hid (RMay17_any a cap l w (by omega) hs hok)
  have HT := hid hT
  have Hs := hid hs
  have Hok := hid hok
  cases hm : mayL l
  · rw [hm] at cM
    clear hs hno hok hT hm
    go_enter Tryz.func3, Tryz.ntmps3
    go_wp2_with fail
    refine cM.out.mono ?_
    rintro e w1 ⟨rfl, hB1⟩
    have c1 := hid (cL.out w1 hB1)
    have HB1 := hid hB1
    clear hB1
    go_wp2_with fail
    refine c1.out.mono ?_
    rintro e w2 ⟨rfl, hB2⟩
    have HB2 := hid (HB1.out.trans (hB2.mono HB1.out.size))
    clear hB2
    go_wp2
    go_ret
    exact ⟨rfl, HB2.out⟩
  rw [hm] at cM
  have Hst := hid (fun c hc => may_steps hm (c := c) hc)
  have Hfa := hid (kn_fault hm)
  have hklen : (l.map knCl).length = l.length := List.length_map ..
  obtain ⟨ks, hks⟩ : ∃ ks, l.map knCl = ks := ⟨_, rfl⟩
  rw [hks] at Hfa hklen
  have Hks := hid hks
  clear hs hno hok hT hm hks
  have Hkl := hid hklen
  clear hklen
  go_enter Tryz.func3, Tryz.ntmps3
  go_wp2_with fail
  refine cM.out.mono ?_
  rintro e w1 ⟨rfl, hB1⟩
  have HB1 := hid hB1
  clear hB1 cM
  go_wp2_with fail
  go_loopw [5, 6, 7, 8] (fun v s i _ wr => ∃ (k q co : Nat) (ao : Option Addr), i = .int .i64 k ∧ k ≤ l.length ∧ v = .slice ao k co ∧ s = .int .i64 q ∧ q ≤ k ∧ Hid (q = (l.take k).countP stpB) ∧ Hid (wr.ownsRow w.heap.size 32 30 (.slice ao k co) k (cls (ks.take k))) ∧ Hid (Below w.heap.size w wr)) (fun _ _ i _ _ => l.length - (intOf i).toNat)
  case atStart => exact ⟨0, 0, 0, none, rfl, by omega, rfl, rfl, by omega, (rfl : (0 : Nat) = 0), World.ownsRow_nil _ _ _ _, HB1⟩
  case round =>
    clear HB1
    obtain ⟨k, q, co, ao, rfl, hk, rfl, rfl, hqk, Hq, HO, HB⟩ := hrel
    by_cases hlt : k < l.length
    · obtain ⟨b, off, rfl, hbk, hr⟩ := Hs.out.atCl hlt
      have hr' := range_below hr HB.out hbk
      have Hcst := hid (Hst.out _ (List.getElem_mem hlt))
      have Hsn := hid (countP_snoc (p := stpB) hlt)
      have hcs : cls (ks.take (k + 1)) = cls (ks.take k) ++ clList (knCl l[k]) := by
        rw [← Hks.out, ← List.map_take, take_snoc l k hlt, List.map_append, List.map_cons, List.map_nil, cls_snoc, ← List.map_take]
      have Hcs := hid hcs
      obtain ⟨c, hc⟩ : ∃ c, l[k] = c := ⟨_, rfl⟩
      rw [hc] at hr' Hcst Hsn Hcs
      have le := ld_at hr'
      have hth2 : (wr.alloc (.cells zL.toArray 32)).there wr.heap.size 0 30 := there_new wr _ _
      have hn2 := below_new (o := .cells zL.toArray 32) (Below.refl wr.heap.size wr) (Nat.le_refl _)
      obtain ⟨W1, hW1⟩ : ∃ W1, putCl (wr.alloc (.cells zL.toArray 32)) wr.heap.size (clList c) = W1 := ⟨_, rfl⟩
      have hC1 : ClB W1 wr.heap.size c := by rw [← hW1]; exact putCl_range _ rfl hth2
      have hz1 : ∀ i, W1.frozen? ⟨wr.heap.size, i, none⟩ = false := fun i => by rw [← hW1, putCl_eq, frozen_setCells']; simp [go_sem]
      have hb1 : Below wr.heap.size wr W1 := by rw [← hW1]; exact putCl_below hn2 (Nat.le_refl _) _
      have HW1 := hid hW1
      have HC1 := hid hC1
      have Hb1 := hid hb1
      have HB1 := hid (HB.out.trans (hb1.mono HB.out.size))
      have z1 := hz1 28
      have z2 := hz1 29
      have z3 := hz1 26
      clear hW1 hn2 hb1 hC1 hr hr' hc hz1 hcs
      go_upto_region 9 with fail
      rw [HW1.out]
      have t0 := HC1.out.tail.1
      have t1 := HC1.out.tail.2.1
      have t3 := HC1.out.tail.2.2.2.1
      have t4 := HC1.out.tail.2.2.2.2
      clear le hth2
      by_cases h3 : c.unit < 3
      · by_cases h1 : 1 < c.step
        · have hz : Hid (q + 1 = (l.take (k + 1)).countP stpB) := by show _ = _; rw [Hsn.out, Hcst.out, decide_eq_true h3, decide_eq_true h1, ← Hq.out]; rfl
          obtain ⟨W2, hW2⟩ : ∃ W2, ((W1.setCell ⟨wr.heap.size, 28, none⟩ (.int .i64 0)).setCell ⟨wr.heap.size, 29, none⟩ (.int .i64 12622780799)).setCell ⟨wr.heap.size, 26, none⟩ (.int .i64 1) = W2 := ⟨_, rfl⟩
          have HC2 : Hid (ClB W2 wr.heap.size (knCl c)) := by
            have hkn : knCl c = { c with fr := 0, un := 12622780799, step := 1 } := by show ({ c with fr := 0, un := 12622780799, step := if c.unit < 3 then 1 else c.step } : Cl) = _; rw [if_pos h3]
            show ClB _ _ _
            rw [← hW2]
            exact clB_set' (clB_set' (clB_set' HC1.out (F := c) (G := { c with fr := 0 }) (k := 28) (by omega) rfl) (G := { c with fr := 0, un := 12622780799 }) (k := 29) (by omega) rfl) (G := knCl c) (k := 26) (by omega) (by rw [hkn]; rfl)
          have HB2 : Hid (Below w.heap.size w W2) := by show Below _ _ _; rw [← hW2]; exact below_set (below_set (below_set HB1.out (by have := HB.out.size; omega)) (by have := HB.out.size; omega)) (by have := HB.out.size; omega)
          have Hb2 : Hid (Below wr.heap.size wr W2) := by show Below _ _ _; rw [← hW2]; exact below_set (below_set (below_set Hb1.out (Nat.le_refl _)) (Nat.le_refl _)) (Nat.le_refl _)
          have HW2 := hid hW2
          clear hW2
          go_upto_region 15 with fail
          rw [HW2.out]
          have l2 := HC2.out.ld
          have HO2 := hid (owns_below HO.out Hb2.out (Nat.le_refl _))
          clear t0 t1 z1 z2 z3
          go_wp2_with (at_builtin; refine appLit eClz (.tmp 52) (.tmp 54) rfl rfl rfl rfl rfl HO2.out rfl (clL_one (knCl c)) (by omega) (by omega) HB2.out.size ?_)
          intro a' cap' w7 g1 g2 g3 g4
          have hO3 : Hid (w7.ownsRow w.heap.size 32 30 (.slice a' (k + 1) cap') (k + 1) (cls (ks.take (k + 1)))) := by
            show World.ownsRow _ _ _ _ _ _ _
            rw [Hcs.out]; exact g1
          have HB3 := hid (HB2.out.trans g3)
          clear g1 g2 g3 g4 l2
          go_wp2
          exact ⟨⟨k + 1, q + 1, cap', a', by go_num, by omega, rfl, by first | rfl | go_num, by omega, hz, hO3, HB3⟩, by simp [intOf]; omega⟩
        · have hz : Hid (q = (l.take (k + 1)).countP stpB) := by show _ = _; rw [Hsn.out, Hcst.out, decide_eq_false h1, ← Hq.out]; simp
          obtain ⟨W2, hW2⟩ : ∃ W2, ((W1.setCell ⟨wr.heap.size, 28, none⟩ (.int .i64 0)).setCell ⟨wr.heap.size, 29, none⟩ (.int .i64 12622780799)).setCell ⟨wr.heap.size, 26, none⟩ (.int .i64 1) = W2 := ⟨_, rfl⟩
          have HC2 : Hid (ClB W2 wr.heap.size (knCl c)) := by
            have hkn : knCl c = { c with fr := 0, un := 12622780799, step := 1 } := by show ({ c with fr := 0, un := 12622780799, step := if c.unit < 3 then 1 else c.step } : Cl) = _; rw [if_pos h3]
            show ClB _ _ _
            rw [← hW2]
            exact clB_set' (clB_set' (clB_set' HC1.out (F := c) (G := { c with fr := 0 }) (k := 28) (by omega) rfl) (G := { c with fr := 0, un := 12622780799 }) (k := 29) (by omega) rfl) (G := knCl c) (k := 26) (by omega) (by rw [hkn]; rfl)
          have HB2 : Hid (Below w.heap.size w W2) := by show Below _ _ _; rw [← hW2]; exact below_set (below_set (below_set HB1.out (by have := HB.out.size; omega)) (by have := HB.out.size; omega)) (by have := HB.out.size; omega)
          have Hb2 : Hid (Below wr.heap.size wr W2) := by show Below _ _ _; rw [← hW2]; exact below_set (below_set (below_set Hb1.out (Nat.le_refl _)) (Nat.le_refl _)) (Nat.le_refl _)
          have HW2 := hid hW2
          clear hW2
          go_upto_region 15 with fail
          rw [HW2.out]
          have l2 := HC2.out.ld
          have HO2 := hid (owns_below HO.out Hb2.out (Nat.le_refl _))
          clear t0 t1 z1 z2 z3
          go_wp2_with (at_builtin; refine appLit eClz (.tmp 52) (.tmp 54) rfl rfl rfl rfl rfl HO2.out rfl (clL_one (knCl c)) (by omega) (by omega) HB2.out.size ?_)
          intro a' cap' w7 g1 g2 g3 g4
          have hO3 : Hid (w7.ownsRow w.heap.size 32 30 (.slice a' (k + 1) cap') (k + 1) (cls (ks.take (k + 1)))) := by
            show World.ownsRow _ _ _ _ _ _ _
            rw [Hcs.out]; exact g1
          have HB3 := hid (HB2.out.trans g3)
          clear g1 g2 g3 g4 l2
          go_wp2
          exact ⟨⟨k + 1, q, cap', a', by go_num, by omega, rfl, by first | rfl | go_num, by omega, hz, hO3, HB3⟩, by simp [intOf]; omega⟩
      · have hz : Hid (q = (l.take (k + 1)).countP stpB) := by show _ = _; rw [Hsn.out, Hcst.out, decide_eq_false h3, ← Hq.out]; simp
        obtain ⟨W2, hW2⟩ : ∃ W2, (W1.setCell ⟨wr.heap.size, 28, none⟩ (.int .i64 0)).setCell ⟨wr.heap.size, 29, none⟩ (.int .i64 12622780799) = W2 := ⟨_, rfl⟩
        have HC2 : Hid (ClB W2 wr.heap.size (knCl c)) := by
          have hkn : knCl c = { c with fr := 0, un := 12622780799 } := by show ({ c with fr := 0, un := 12622780799, step := if c.unit < 3 then 1 else c.step } : Cl) = _; rw [if_neg h3]
          show ClB _ _ _
          rw [← hW2]
          exact clB_set' (clB_set' HC1.out (F := c) (G := { c with fr := 0 }) (k := 28) (by omega) rfl) (G := knCl c) (k := 29) (by omega) (by rw [hkn]; rfl)
        have HB2 : Hid (Below w.heap.size w W2) := by show Below _ _ _; rw [← hW2]; exact below_set (below_set HB1.out (by have := HB.out.size; omega)) (by have := HB.out.size; omega)
        have Hb2 : Hid (Below wr.heap.size wr W2) := by show Below _ _ _; rw [← hW2]; exact below_set (below_set Hb1.out (Nat.le_refl _)) (Nat.le_refl _)
        have HW2 := hid hW2
        clear hW2
        go_upto_region 15 with fail
        rw [HW2.out]
        have l2 := HC2.out.ld
        have HO2 := hid (owns_below HO.out Hb2.out (Nat.le_refl _))
        clear t0 t1 z1 z2 z3
        go_wp2_with (at_builtin; refine appLit eClz (.tmp 52) (.tmp 54) rfl rfl rfl rfl rfl HO2.out rfl (clL_one (knCl c)) (by omega) (by omega) HB2.out.size ?_)
        intro a' cap' w7 g1 g2 g3 g4
        have hO3 : Hid (w7.ownsRow w.heap.size 32 30 (.slice a' (k + 1) cap') (k + 1) (cls (ks.take (k + 1)))) := by
          show World.ownsRow _ _ _ _ _ _ _
          rw [Hcs.out]; exact g1
        have HB3 := hid (HB2.out.trans g3)
        clear g1 g2 g3 g4 l2
        go_wp2
        exact ⟨⟨k + 1, q, cap', a', by go_num, by omega, rfl, by first | rfl | go_num, by omega, hz, hO3, HB3⟩, by simp [intOf]; omega⟩
    · obtain rfl : k = l.length := by omega
      rw [List.take_length] at Hq
      rw [List.take_of_length_le (by rw [Hkl.out]; exact Nat.le_refl _)] at HO
      have hoks : ∀ c ∈ ks, c.Ok := fun c hc => by
        rw [← Hks.out] at hc
        obtain ⟨d, hd, rfl⟩ := List.mem_map.1 hc
        exact kn_ok (Hok.out d hd)
      have Hoks := hid hoks
      have hk8 : ks.length ≤ 8 := by rw [Hkl.out]; omega
      have Hk8 := hid hk8
      have ho' := HO.out
      rw [← Hkl.out] at ho'
      have cN := hid (RNew_any ao co ks wr (by omega) (owns_cap ho') (owns_sl ho') (owns_none ho') hoks (HT.out.later HB.out))
      rw [Hkl.out] at cN
      clear hoks hk8 ho'
      go_wp2_with fail
      refine cN.out.mono ?_
      rintro e w3 ⟨hN, hB3⟩
      rcases hN with ⟨h, -⟩ | ⟨-, br, bk, bps, rfl, hR, hM⟩
      · exact absurd Hfa.out h
      have HB3 := hid (HB.out.trans (hB3.mono HB.out.size))
      have HO3 := hid (owns_below HO.out hB3 (Nat.le_refl _))
      have HM := hid (fun b hb => Nat.le_trans HB.out.size (hM b hb))
      have HR3 := hid hR
      have d1 := hid (RSteps_any a cap l w3 (by omega) (Hs.out.below HB3.out) Hok.out)
      rw [← Hq.out] at d1
      clear hR hM hB3 cN
      go_wp2_with fail
      refine d1.out.mono ?_
      rintro e w4 ⟨rfl, hB4⟩
      have HB4 := hid (HB3.out.trans (hB4.mono HB3.out.size))
      have HO4 := hid (owns_below HO3.out hB4 (Nat.le_refl _))
      have HR4 := hid (HR3.out.below hB4)
      have ho' := HO4.out
      rw [← Hkl.out] at ho'
      have d2 := hid (RSteps_any ao co ks w4 (by have := Hk8.out; omega) (owns_sl ho') Hoks.out)
      rw [Hkl.out, ← Hks.out, kn_steps] at d2
      have qq : (q != q) = false := by simp
      clear hB4 d1 ho'
      go_wp2_with fail
      refine d2.out.mono ?_
      rintro e w5 ⟨rfl, hB5⟩
      have HS5 : Hid (KnS w ks br bk bps ((x : Int) % 146097) 0 w5) := ⟨_, _, _, HR4.out.below hB5, ⟨cntW_none.symm, fun j hj => by simp at hj, fun h => absurd h (by omega)⟩, HB4.out.trans (hB5.mono HB4.out.size)⟩
      clear hB5 d2 HR4 HR3 HO3 HO4 HB3 HB4
      go_wp2_with fail
      go_loopw [11] (fun i wr => ∃ k : Nat, i = .int .i64 k ∧ k ≤ 3000 ∧ Hid (KnS w ks br bk bps ((x : Int) % 146097) k wr)) (fun i _ => 3000 - (intOf i).toNat)
      case atStart => exact ⟨0, rfl, by omega, HS5⟩
      case round =>
        clear HS5
        obtain ⟨k, rfl, hk, HS⟩ := hrel
        by_cases hlt : k < 3000
        · obtain ⟨F, ws, m, hR, hI, hB⟩ := HS.out
          have n0 : 0 ≤ ((x : Int) + k) % 146097 := by omega
          have n1 : ((x : Int) + k) % 146097 < 146097 := by omega
          have hm : m < 4611686018427387904 := by have := hI.le; have := pow_le Hk8.out; omega
          have dD := hid (RollDay2_any (((x : Int) + k) % 146097) n0 n1 hm hR)
          have HI := hid hI
          have HB := hid hB
          have N01 := hid (And.intro n0 n1)
          clear hR hI hB hm n0 n1
          go_wp2_with fail
          refine dD.out.mono ?_
          rintro e w6 ⟨d, F3, ws3, m3, rfl, hR3, hG3, hE3, hst3, hn3, hs3, hx3⟩
          have HSn : Hid (KnS w ks br bk bps ((x : Int) % 146097) (k + 1) w6) :=
            ⟨_, _, _, hR3, HI.out.step Hk8.out (by rw [← Hks.out]; exact kn_whole N01.out.1 N01.out.2) hst3 (fun h => by rw [h]; simp), HB.out.trans (hE3.below HM.out HB.out.size)⟩
          clear hR3 hG3 hE3 hst3 hn3 hs3 hx3 dD
          go_wp2
          exact ⟨⟨k + 1, by go_num, by omega, HSn⟩, by simp [intOf]; omega⟩
        · obtain rfl : k = 3000 := by omega
          go_wp2_with fail
          go_loopw [12, 13] (fun v i wr => ∃ j P : Nat, i = .int .i64 j ∧ j ≤ l.length ∧ v = .int .i64 P ∧ P ≤ 256 ∧ Hid (P = 2 ^ j) ∧ Hid (KnS w ks br bk bps ((x : Int) % 146097) 3000 wr)) (fun _ i _ => l.length - (intOf i).toNat)
          case atStart => exact ⟨0, 1, rfl, by omega, rfl, by omega, (rfl : (1 : Nat) = 2 ^ 0), HS⟩
          case round =>
            clear HS
            obtain ⟨j, P, rfl, hj, rfl, hP, HP, HS⟩ := hrel
            by_cases hlt2 : j < l.length
            · have hp2 : Hid (2 * P = 2 ^ (j + 1)) := by show _ = _; rw [HP.out, Nat.pow_succ, Nat.mul_comm]
              have hp3 : 2 * P ≤ 256 := by rw [hp2.out]; exact pow_le (by omega)
              go_wp2
              exact ⟨⟨j + 1, 2 * P, by go_num, by omega, by go_num, hp3, hp2, HS⟩, by simp [intOf]; omega⟩
            · obtain rfl : j = l.length := by omega
              obtain ⟨F, ws, m, hR, hI, hB⟩ := HS.out
              have n0 : 0 ≤ (x : Int) % 146097 := by omega
              have n1 : (x : Int) % 146097 < 146097 := by omega
              have N01 := hid (And.intro n0 n1)
              have hW : Hid (wholeB ks ((x : Int) % 146097) = true) := by show _ = _; rw [← Hks.out]; exact kn_whole n0 n1
              have hmP : (m : Int) ≤ P := by have h1 := hI.le; rw [Hkl.out, ← HP.out] at h1; omega
              have hm : m < 4611686018427387904 := by omega
              have dM := hid (RMadeN_any hR)
              have dD := hid (RollDay2_any ((x : Int) % 146097) n0 n1 hm hR)
              have HI := hid hI
              have HB := hid hB
              have hmm : (m : Int) < 4611686018427387904 := by omega
              clear hR hI hB hm n0 n1
              go_wp2_with fail
              refine dM.out.mono ?_
              rintro e w6 ⟨rfl, rfl⟩
              go_wp2_with fail
              refine dD.out.mono ?_
              rintro e w7 ⟨d, F7, ws7, m7, rfl, hR7, hG7, hE7, hst7, hn7, hs7, hx7⟩
              obtain ⟨em, hI7⟩ := HI.out.same (by omega) hW.out hst7
              rw [em] at hR7 hI7
              have HB7 := hid (HB.out.trans (hE7.below HM.out HB.out.size))
              have HR7 := hid hR7
              have HI7 := hid hI7
              have hd7 := hid (day_disc Hk8.out N01.out.1 N01.out.2 hn7 hs7)
              have hs7' := hid (fun b hb => And.intro (hs7 b hb).1 (hs7 b hb).2.1)
              have dD7 := hid (RollDay2_any ((x : Int) % 146097) N01.out.1 N01.out.2 (by omega) hR7)
              obtain ⟨v7, hv7⟩ : ∃ v, dptr d = v := ⟨_, rfl⟩
              have Hv7 := hid hv7
              rw [hv7]
              clear hR7 hG7 hE7 hst7 hn7 hs7 hx7 hI7 em hv7 dD dM
              go_wp2_with fail
              refine dD7.out.mono ?_
              rintro e w8 ⟨d8, F8, ws8, m8, rfl, hR8, hG8, hE8, hst8, hn8, hs8, hx8⟩
              obtain ⟨em, hI8⟩ := HI7.out.same (by omega) hW.out hst8
              rw [em] at hR8 hI8
              have HB8 := hid (HB7.out.trans (hE8.below HM.out HB7.out.size))
              have HR8 := hid hR8
              have hd8 := day_disc Hk8.out N01.out.1 N01.out.2 hn8 hs8
              have hd78 : DiscO w8 d (dayQ ks ((x : Int) % 146097)) := by
                have h := hd7.out
                cases d with
                | none => exact h
                | some b => exact DiscAt.eff h hE8 (hs7'.out b rfl).2
              have dE : Hid (Calls Tryz.prog 16 #[dptr d, dptr d8] w8 fun r w' => r = .returned (.bool true) ∧ w8 = w') := by
                have h1 := hd78.v
                have h2 := hd8.v
                have h := DEqual_any d d8 _ _ w8 (HT.out.later HB8.out) h1.1 h2.1
                rw [h1.2, h2.2] at h
                refine h.mono ?_
                rintro r w' ⟨⟨n, ok, rfl, hF⟩, h3⟩
                rcases hF with ⟨-, k, -, hk, hp, -⟩ | ⟨rfl, -, -⟩
                · simp at hp
                · exact ⟨rfl, h3⟩
              rw [Hv7.out] at dE
              have dM := hid (RMadeN_any hR8)
              obtain ⟨v8, hv8⟩ : ∃ v, dptr d8 = v := ⟨_, rfl⟩
              rw [hv8] at dE ⊢
              clear hR8 hG8 hE8 hst8 hn8 hs8 hx8 hI8 em hv8 dD7 hd8 hd78
              go_wp2_with fail
              refine dM.out.mono ?_
              rintro e w9 ⟨rfl, rfl⟩
              go_wp2_with fail
              refine dE.out.mono ?_
              rintro e w9 ⟨rfl, rfl⟩
              have cF := hid (RFull_any w8)
              have cSt : Hid (∀ W, Below w.heap.size w W → Calls Tryz.prog 13 #[.slice (some ⟨W.heap.size, 0, none⟩) 2 2] (W.alloc (.cells (cls [stpCl, fullCl]).toArray 32)) fun e w' => e = .returned (.int .i64 1) ∧ Below w.heap.size w w') := fun W hB => by
                have hn := below_new (o := .cells (cls [stpCl, fullCl]).toArray 32) (Below.refl W.heap.size W) (Nat.le_refl _)
                have h := RSteps_any (some ⟨W.heap.size, 0, none⟩) 2 [stpCl, fullCl] (W.alloc (.cells (cls [stpCl, fullCl]).toArray 32)) (by decide) (sl_range (range_new W _ _) (by simp)) (fun c hc => by
                  rcases List.mem_cons.1 hc with rfl | hc
                  · exact stp_ok
                  · rw [List.mem_singleton.1 hc]; exact full_ok)
                rw [stp_two] at h
                exact h.mono fun e w' ⟨h1, h2⟩ => ⟨h1, hB.trans ((hn.trans (h2.mono hn.size)).mono hB.size)⟩
              obtain ⟨G, hG⟩ : ∃ G, fullCl = G := ⟨_, rfl⟩
              rw [hG] at cF cSt
              clear hG
              go_wp2_with fail
              refine cF.out.mono ?_
              rintro e wA ⟨rfl, hBA⟩
              have HBA := hid (HB8.out.trans (hBA.mono HB8.out.size))
              have cSA := hid (cSt.out wA HBA.out)
              clear hBA cF cSt
              go_wp2_with fail
              refine (show Calls _ _ _ _ _ from cSA.out).mono ?_
              rintro e wB ⟨rfl, hBB⟩
              have cLB := hid (cL.out wB hBB)
              have HBB := hid hBB
              clear hBB
              go_wp2_with fail
              refine cLB.out.mono ?_
              rintro e wC ⟨rfl, hBC⟩
              have HBC := hid (HBB.out.trans (hBC.mono HBB.out.size))
              clear hBC
              go_wp2
              go_ret
              exact ⟨rfl, HBC.out⟩
end Go.Proofs.YtcbanlgnanihhaaGreatDoor
namespace Go.Proofs.YtcbanlgnanihhaaGreatDoor
open Go.ChangeShapes Go.WideShapes Go.ChangeAt Go.RowKit
set_option linter.unusedVariables false

theorem ownKnobNone : ownKnob Tryz.prog.godebug = none := by kernel_rfl
theorem laidOut : laidOutB Tryz.prog = true := by kernel_rfl
theorem gTab : Tryz.prog.globalNamed "math/bits.deBruijn64tab" = some 0 := by kernel_rfl
theorem gTabType : (Tryz.prog.globals[0]?).map (·.type) = some 199 := by kernel_rfl
theorem cellsTab : Tryz.prog.cellsOf 199 = 64 := by kernel_rfl
theorem cellsU8 : Tryz.prog.cellsOf 5 = 1 := by kernel_rfl
def tabInts : List Int := Lib.deBruijn64tab.map fun (n : Nat) => (n : Int)
theorem tabInts_get : ∀ i, i < 64 → tabInts.getD i 0 = ((Lib.deBruijn64tab.getD i 0 : Nat) : Int) := by decide
theorem tab_of {W : World} (h : laidMetH Tryz.prog [("math/bits.deBruijn64tab", Rows.laid_math_bits_deBruijn64tab)] W) : Tab W := by
  have ht : Lib.TabIs Tryz.prog W "math/bits.deBruijn64tab" .u8 tabInts := Lib.tabIs_of_head (rest := []) gTab gTabType Tryz.underlying199 Tryz.underlying5 cellsU8 cellsTab h
  have hc : ∀ i, i < 64 → W.cell? ⟨0, i, none⟩ = some (.int .u8 (tabInts.getD i 0)) := fun i hi => ht.cell gTab i hi
  exact ⟨Nat.lt_of_le_of_lt (Nat.zero_le _) (World.block_lt_of_cell? W _ (hc 0 (by omega))), fun i hi => by rw [hc i hi, tabInts_get i hi]⟩

/-- A world for the witnesses: the settled one, the table holding what its initialiser lays. -/
noncomputable def laidWorld (os : Os) : World :=
  { World.holding Tryz.prog os ⟨#[], #[], []⟩ with heap := (World.holding Tryz.prog os ⟨#[], #[], []⟩).heap.modify 0 fun
      | .cells _ t frozen => .cells (tabInts.map (Value.int .u8)).toArray t frozen
      | o => o }

end Go.Proofs.YtcbanlgnanihhaaGreatDoor
namespace Go.Proofs.YtcbanlgnanihhaaGreatDoor
open Go.RowKit
set_option linter.unusedVariables false

/-! ### shapes that are the same -/
theorem cellsSh : Tryz.prog.cellsOf 63 = 10 := by kernel_rfl
theorem keySh : Tryz.prog.keyTypeAt 3 63 = true := by kernel_rfl
theorem formSh (s : Nat → Int) : (shq s).formed Tryz.prog 63 = true := by
  unfold Value.formed; simp only [Tryz.underlying63, cellsSh]; rfl
theorem lits_sh (d : Nat) (s : Nat → Int) (h : ∀ i, i64B (s i)) : Tryz.prog.keyLits (d + 2) 63 (shList s) = some [.int .i64 (s 0), .int .i64 (s 1), .int .i64 (s 2), .int .i64 (s 3), .int .i64 (s 4), .int .i64 (s 5), .int .i64 (s 6), .int .i64 (s 7), .int .i64 (s 8), .int .i64 (s 9)] := by
  unfold Program.keyLits
  simp only [Tryz.underlying63]
  simp [cellsI, cellsSh, lits_i, h]
def eqlShS (a b : Value) : Sem Value := binOp .eql 63 a b
theorem eql_shS (a b : Value) : binOp .eql 63 a b = eqlShS a b := rfl
def neqShS (a b : Value) : Sem Value := binOp .neq 63 a b
theorem neq_shS (a b : Value) : binOp .neq 63 a b = neqShS a b := rfl
theorem eqIn_sh (s : Nat → Int) (w : World) (h : ∀ i, i64B (s i)) : (Op.equalIn 10000 63 (shq s) (shq s)).run Tryz.prog w = .ok true w := by
  obtain ⟨r, hr, hi⟩ := run_equalIn_deep 9997 3 63 keySh w 3 3 _ _ _ _ (formSh s) (formSh s) (lits_sh 1 s h) (lits_sh 1 s h)
  have e : r = true := hi.2 rfl
  rw [e] at hr
  exact hr
theorem eqlSh_run (s : Nat → Int) (w : World) (h : ∀ i, i64B (s i)) : (eqlShS (shq s) (shq s)).run Tryz.prog w = .ok (.bool true) w := by
  rw [eqlShS, shq, run_eql_struct]
  have := eqIn_sh s w h
  rw [shq] at this
  rw [this]; rfl
theorem shF_bnd {n : Int} (h0 : 0 ≤ n) (h1 : n < 146097) (i : Nat) : i64B (shF n i) := by
  obtain ⟨y0, y1, m0, m1, d0, d1⟩ := fDate_year h0 h1
  obtain ⟨-, g2, g3⟩ := fOr_ms h0 h1
  obtain ⟨l0, l1⟩ := lenI_bd (fY n) (fMo n)
  have lp := leapI_bd (fY n)
  unfold i64B
  match i with
  | 0 => show _ ≤ n ∧ n ≤ _; omega
  | 1 => show _ ≤ fY n ∧ fY n ≤ _; omega
  | 2 => show _ ≤ fMo n ∧ fMo n ≤ _; omega
  | 3 => show _ ≤ fD n ∧ fD n ≤ _; omega
  | 4 => show _ ≤ lenI (fY n) (fMo n) - fD n + 1 ∧ lenI (fY n) (fMo n) - fD n + 1 ≤ _; omega
  | 5 => show _ ≤ (n % 7 + 3) % 7 + 1 ∧ (n % 7 + 3) % 7 + 1 ≤ _; omega
  | 6 => show _ ≤ (fD n - 1) / 7 + 1 ∧ (fD n - 1) / 7 + 1 ≤ _; omega
  | 7 => show _ ≤ (lenI (fY n) (fMo n) - fD n) / 7 + 1 ∧ (lenI (fY n) (fMo n) - fD n) / 7 + 1 ≤ _; omega
  | 8 => show _ ≤ (fOr n - 1) / 7 + 1 ∧ (fOr n - 1) / 7 + 1 ≤ _; omega
  | _ + 9 => show _ ≤ (365 + leapI (fY n) - fOr n) / 7 + 1 ∧ (365 + leapI (fY n) - fOr n) / 7 + 1 ≤ _; omega

end Go.Proofs.YtcbanlgnanihhaaGreatDoor

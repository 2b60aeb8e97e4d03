/-
  ir.May, ir.Has: whether clauses are a set, what is in it.
  slices.Clone, slices.Grow, slices.Concat of clauses.
  ir.Of, ir.Join, ir.Whole: sets made of clauses.
-/
import Derived.Test.YtgiecadlliblpaaGreatClHasFn
import Derived.Test.YtgiecadlliblpaaGreatClDcs
import Derived.Test.YtgiecadlliblpaaGreatOpenCls
import Derived.Test.YtgiecadlliblpaaGreatClMayFn
import Derived.BigQuiet
import Derived.Deep.CutRange
import Derived.Lib.AppendZeros
import Derived.Lib.SliceRun
import Derived.Test.YtgiecadlliblpaaGreatClFull
namespace Go.Proofs.YtgiecadlliblpaaGreat
open Go.RowKit
set_option linter.unusedVariables false

attribute [local go_sem ↓] loadAt_cl
set_option maxHeartbeats 1600000 in
theorem IMay1_any (c : Cl) (w : World) (hc : c.Ok) : Calls Tryz.prog 22 #[clv c] w fun e w' => e = .returned (.bool (!mayC c)) ∧ Below w.heap.size w w' := by
  have cM := hid (fun W => CMayCl_any c W hc)
  obtain ⟨W0, hW0⟩ : ∃ W, w.alloc (.cells (clList c).toArray 40) = W := ⟨_, rfl⟩
  have b0 : Below w.heap.size w W0 := by rw [← hW0]; exact below_new (Below.refl _ _) (Nat.le_refl _)
  have c0 : ClB W0 w.heap.size c := by rw [← hW0]; exact clB_new w c _
  have HB0 := hid b0
  have HW0 := hid hW0
  have l0 := c0.ld
  obtain ⟨m, hm⟩ : ∃ m, mayC c = m := ⟨_, rfl⟩
  rw [hm] at cM ⊢
  clear hm b0 c0 hW0
  go_enter Tryz.func22, Tryz.ntmps22
  go_upto_region 1 with fail
  rw [HW0.out]
  go_wp2_with fail
  refine (cM.out _).mono ?_
  rintro e w1 ⟨rfl, hB1⟩
  have HB1 := hid (HB0.out.trans (hB1.mono HB0.out.size))
  clear hB1 l0
  go_wp2
  go_ret
  exact ⟨rfl, HB1.out⟩
set_option maxHeartbeats 1600000 in
theorem IHas1_any (c : Cl) (t : Int) (bt : Nat) (w : World) (hc : c.Ok) (hbt : bt < w.heap.size) (ht : w.cell? ⟨bt, 0, none⟩ = some (.int .i64 t)) : Calls Tryz.prog 23 #[clv c, .pointer (some ⟨bt, 0, none⟩)] w fun e w' => e = .returned (.bool (hasC c t)) ∧ Below w.heap.size w w' := by
  have cM := hid (fun W => CHas_any c t W hc)
  obtain ⟨W0, hW0⟩ : ∃ W, w.alloc (.cells (clList c).toArray 40) = W := ⟨_, rfl⟩
  have b0 : Below w.heap.size w W0 := by rw [← hW0]; exact below_new (Below.refl _ _) (Nat.le_refl _)
  have c0 : ClB W0 w.heap.size c := by rw [← hW0]; exact clB_new w c _
  have t0 := (b0.cell (p := ⟨bt, 0, none⟩) hbt).trans ht
  have HB0 := hid b0
  have HW0 := hid hW0
  have l0 := c0.ld
  obtain ⟨m, hm⟩ : ∃ m, hasC c t = m := ⟨_, rfl⟩
  rw [hm] at cM ⊢
  clear hm b0 c0 hW0 ht
  go_enter Tryz.func23, Tryz.ntmps23
  go_upto_region 1 with fail
  rw [HW0.out]
  go_wp2_with fail
  refine (cM.out _).mono ?_
  rintro e w1 ⟨rfl, hB1⟩
  have HB1 := hid (HB0.out.trans (hB1.mono HB0.out.size))
  clear hB1 l0
  go_wp2
  go_ret
  exact ⟨rfl, HB1.out⟩
def IdxR (p : Cl → Bool) (l : List Cl) (e : Ending) : Prop := ∃ r : Int, e = .returned (.int .i64 r) ∧ decide (0 ≤ r) = l.any p
set_option maxRecDepth 100000 in
set_option maxHeartbeats 3200000 in
theorem IdxMay_any (a : Option Addr) (cap : Nat) (l : List Cl) (w : World) (hl : l.length ≤ 9223372036854775807) (hs : Sl w a (cls l)) (hok : ∀ c ∈ l, c.Ok) :
    Calls Tryz.prog 38 #[.slice a l.length cap, .func (.func 22) #[] #[]] w fun e w' => IdxR (fun c => !mayC c) l e ∧ Below w.heap.size w w' := by
  have Hs := hid hs
  have Hok := hid hok
  clear hs hok
  go_enter Tryz.func38, Tryz.ntmps38
  go_wp2
  go_loopw [8] (fun i wr => ∃ k : Nat, i = .int .i64 k ∧ k ≤ l.length ∧ Hid ((l.take k).any (fun c => !mayC c) = false) ∧ Hid (Below w.heap.size w wr)) (fun i _ => l.length - (intOf i).toNat)
  case atStart => exact ⟨0, rfl, by omega, by show _ = _; rfl, Below.refl _ _⟩
  case round =>
    obtain ⟨k, rfl, hk, hno, HB⟩ := hrel
    by_cases hlt : k < l.length
    · have hltI : (k : Int) < l.length := by omega
      obtain ⟨b, off, rfl, hbk, hr⟩ := Hs.out.atCl hlt
      have hr' := range_below hr HB.out hbk
      have hcOk := hid (Hok.out _ (List.getElem_mem hlt))
      have ts := hid (take_snoc l k hlt)
      have hmem := hid (List.getElem_mem hlt)
      obtain ⟨c, hc⟩ : ∃ c, l[k] = c := ⟨_, rfl⟩
      rw [hc] at hr' hcOk ts hmem
      have le := ld_at hr'
      have cP := hid (IMay1_any c wr hcOk.out)
      obtain ⟨v, hv⟩ : ∃ v, (!mayC c) = v := ⟨_, rfl⟩
      rw [hv] at cP
      have Hv := hid hv
      clear hr hr' hc hv
      go_wp2_with fail
      refine cP.out.mono ?_
      rintro e w1 ⟨rfl, hB1⟩
      have HB1 := hid (HB.out.trans (hB1.mono HB.out.size))
      clear hB1 le
      cases v
      · go_wp2
        exact ⟨⟨k + 1, by go_num, by omega, by show _ = _; rw [ts.out, List.any_append, hno.out, List.any_cons, Hv.out]; rfl, HB1⟩, by simp [intOf]; omega⟩
      · have hyes : Hid (IdxR (fun c => !mayC c) l (.returned (.int .i64 (k : Int)))) := ⟨k, rfl, by rw [decide_eq_true (by omega)]; exact (List.any_eq_true.2 ⟨c, hmem.out, Hv.out⟩).symm⟩
        go_wp2
        go_ret
        exact ⟨hyes.out, HB1.out⟩
    · have hltI : ¬ (k : Int) < l.length := by omega
      have hall : Hid (IdxR (fun c => !mayC c) l (.returned (.int .i64 (-1)))) := ⟨-1, rfl, by rw [decide_eq_false (by omega), ← hno.out, List.take_of_length_le (by omega)]⟩
      go_wp2
      go_ret
      exact ⟨hall.out, HB.out⟩
set_option maxHeartbeats 1600000 in
theorem ConMay_any (a : Option Addr) (cap : Nat) (l : List Cl) (w : World) (hl : l.length ≤ 9223372036854775807) (hs : Sl w a (cls l)) (hok : ∀ c ∈ l, c.Ok) :
    Calls Tryz.prog 21 #[.slice a l.length cap, .func (.func 22) #[] #[]] w fun e w' => e = .returned (.bool (l.any (fun c => !mayC c))) ∧ Below w.heap.size w w' := by
  have cI := hid (IdxMay_any a cap l w hl hs hok)
  obtain ⟨v, hv⟩ : ∃ v, l.any (fun c => !mayC c) = v := ⟨_, rfl⟩
  have cI' : Hid (Calls Tryz.prog 38 #[.slice a l.length cap, .func (.func 22) #[] #[]] w fun e w' => (∃ r : Int, e = .returned (.int .i64 r) ∧ decide (0 ≤ r) = v) ∧ Below w.heap.size w w') := cI.out.mono fun e w' ⟨h, hb⟩ => ⟨by rw [← hv]; exact h, hb⟩
  rw [hv]
  clear hv cI hs hok
  go_enter Tryz.func21, Tryz.ntmps21
  go_wp2_with fail
  refine cI'.out.mono ?_
  rintro e w1 ⟨⟨r, rfl, hr⟩, hB1⟩
  have HB1 := hid hB1
  have Hr := hid hr
  clear hB1 hr
  go_wp2
  go_ret
  exact ⟨ret_bool Hr.out, HB1.out⟩
set_option maxRecDepth 100000 in
set_option maxHeartbeats 3200000 in
theorem IdxHas_any (t : Int) (bt : Nat) (a : Option Addr) (cap : Nat) (l : List Cl) (w : World) (hl : l.length ≤ 9223372036854775807) (hs : Sl w a (cls l)) (hok : ∀ c ∈ l, c.Ok) (hbt : bt < w.heap.size) (ht : w.cell? ⟨bt, 0, none⟩ = some (.int .i64 t)) :
    Calls Tryz.prog 38 #[.slice a l.length cap, .func (.func 23) #[] #[.pointer (some ⟨bt, 0, none⟩)]] w fun e w' => IdxR (fun c => hasC c t) l e ∧ Below w.heap.size w w' := by
  have Hs := hid hs
  have Hok := hid hok
  have Ht := hid ht
  clear hs hok ht
  go_enter Tryz.func38, Tryz.ntmps38
  go_wp2
  go_loopw [8] (fun i wr => ∃ k : Nat, i = .int .i64 k ∧ k ≤ l.length ∧ Hid ((l.take k).any (fun c => hasC c t) = false) ∧ Hid (Below w.heap.size w wr)) (fun i _ => l.length - (intOf i).toNat)
  case atStart => exact ⟨0, rfl, by omega, by show _ = _; rfl, Below.refl _ _⟩
  case round =>
    obtain ⟨k, rfl, hk, hno, HB⟩ := hrel
    by_cases hlt : k < l.length
    · have hltI : (k : Int) < l.length := by omega
      obtain ⟨b, off, rfl, hbk, hr⟩ := Hs.out.atCl hlt
      have hr' := range_below hr HB.out hbk
      have hcOk := hid (Hok.out _ (List.getElem_mem hlt))
      have ts := hid (take_snoc l k hlt)
      have hmem := hid (List.getElem_mem hlt)
      obtain ⟨c, hc⟩ : ∃ c, l[k] = c := ⟨_, rfl⟩
      rw [hc] at hr' hcOk ts hmem
      have le := ld_at hr'
      have cP := hid (IHas1_any c t bt wr hcOk.out (Nat.lt_of_lt_of_le hbt HB.out.size) ((HB.out.cell (p := ⟨bt, 0, none⟩) hbt).trans Ht.out))
      obtain ⟨v, hv⟩ : ∃ v, (hasC c t) = v := ⟨_, rfl⟩
      rw [hv] at cP
      have Hv := hid hv
      clear hr hr' hc hv
      go_wp2_with fail
      refine cP.out.mono ?_
      rintro e w1 ⟨rfl, hB1⟩
      have HB1 := hid (HB.out.trans (hB1.mono HB.out.size))
      clear hB1 le
      cases v
      · go_wp2
        exact ⟨⟨k + 1, by go_num, by omega, by show _ = _; rw [ts.out, List.any_append, hno.out, List.any_cons, Hv.out]; rfl, HB1⟩, by simp [intOf]; omega⟩
      · have hyes : Hid (IdxR (fun c => hasC c t) l (.returned (.int .i64 (k : Int)))) := ⟨k, rfl, by rw [decide_eq_true (by omega)]; exact (List.any_eq_true.2 ⟨c, hmem.out, Hv.out⟩).symm⟩
        go_wp2
        go_ret
        exact ⟨hyes.out, HB1.out⟩
    · have hltI : ¬ (k : Int) < l.length := by omega
      have hall : Hid (IdxR (fun c => hasC c t) l (.returned (.int .i64 (-1)))) := ⟨-1, rfl, by rw [decide_eq_false (by omega), ← hno.out, List.take_of_length_le (by omega)]⟩
      go_wp2
      go_ret
      exact ⟨hall.out, HB.out⟩
set_option maxHeartbeats 1600000 in
theorem ConHas_any (t : Int) (bt : Nat) (a : Option Addr) (cap : Nat) (l : List Cl) (w : World) (hl : l.length ≤ 9223372036854775807) (hs : Sl w a (cls l)) (hok : ∀ c ∈ l, c.Ok) (hbt : bt < w.heap.size) (ht : w.cell? ⟨bt, 0, none⟩ = some (.int .i64 t)) :
    Calls Tryz.prog 21 #[.slice a l.length cap, .func (.func 23) #[] #[.pointer (some ⟨bt, 0, none⟩)]] w fun e w' => e = .returned (.bool (l.any (fun c => hasC c t))) ∧ Below w.heap.size w w' := by
  have cI := hid (IdxHas_any t bt a cap l w hl hs hok hbt ht)
  obtain ⟨v, hv⟩ : ∃ v, l.any (fun c => hasC c t) = v := ⟨_, rfl⟩
  have cI' : Hid (Calls Tryz.prog 38 #[.slice a l.length cap, .func (.func 23) #[] #[.pointer (some ⟨bt, 0, none⟩)]] w fun e w' => (∃ r : Int, e = .returned (.int .i64 r) ∧ decide (0 ≤ r) = v) ∧ Below w.heap.size w w') := cI.out.mono fun e w' ⟨h, hb⟩ => ⟨by rw [← hv]; exact h, hb⟩
  rw [hv]
  clear hv cI hs hok
  go_enter Tryz.func21, Tryz.ntmps21
  go_wp2_with fail
  refine cI'.out.mono ?_
  rintro e w1 ⟨⟨r, rfl, hr⟩, hB1⟩
  have HB1 := hid hB1
  have Hr := hid hr
  clear hB1 hr
  go_wp2
  go_ret
  exact ⟨ret_bool Hr.out, HB1.out⟩
def mayL (l : List Cl) : Bool := decide (l.length ≤ 8) && l.all mayC
theorem any_not (l : List Cl) : (!l.any (fun c => !mayC c)) = l.all mayC := by
  induction l with
  | nil => rfl
  | cons c l ih => rw [List.any_cons, List.all_cons, ← ih]; cases mayC c <;> simp
set_option maxHeartbeats 1600000 in
theorem IMay_any (a : Option Addr) (cap : Nat) (l : List Cl) (w : World) (hl : l.length ≤ 9223372036854775807) (hs : Sl w a (cls l)) (hok : ∀ c ∈ l, c.Ok) :
    Calls Tryz.prog 9 #[.slice a l.length cap] w fun e w' => e = .returned (.bool (mayL l)) ∧ Below w.heap.size w w' := by
  rw [mayL, ← any_not]
  have cC := hid (ConMay_any a cap l w hl hs hok)
  obtain ⟨v, hv⟩ : ∃ v, l.any (fun c => !mayC c) = v := ⟨_, rfl⟩
  rw [hv] at cC ⊢
  clear hv hs hok
  by_cases h8 : l.length ≤ 8
  · rw [decide_eq_true h8, Bool.true_and]
    have h8I : (l.length : Int) ≤ 8 := by omega
    have h8J : decide ((l.length : Int) ≤ 8) = true := decide_eq_true h8I
    go_enter Tryz.func9, Tryz.ntmps9
    go_wp2_with fail
    refine cC.out.mono ?_
    rintro e w1 ⟨rfl, hB1⟩
    have HB1 := hid hB1
    clear hB1
    go_wp2
    go_ret
    exact ⟨rfl, HB1.out⟩
  · rw [decide_eq_false h8, Bool.false_and]
    have h8I : ¬ (l.length : Int) ≤ 8 := by omega
    have h8J : decide ((l.length : Int) ≤ 8) = false := decide_eq_false h8I
    go_enter Tryz.func9, Tryz.ntmps9
    go_wp2
    go_ret
    exact ⟨rfl, Below.refl _ _⟩
def hasL (l : List Cl) (t : Int) : Bool := mayL l && l.any (fun c => hasC c t)
set_option maxHeartbeats 1600000 in
theorem IHas_any (a : Option Addr) (cap : Nat) (l : List Cl) (t : Int) (w : World) (hl : l.length ≤ 9223372036854775807) (hs : Sl w a (cls l)) (hok : ∀ c ∈ l, c.Ok) :
    Calls Tryz.prog 10 #[.slice a l.length cap, .int .i64 t] w fun e w' => e = .returned (.bool (hasL l t)) ∧ Below w.heap.size w w' := by
  rw [hasL]
  obtain ⟨W0, hW0⟩ : ∃ W, w.alloc (.cells #[.int .i64 t] 2) = W := ⟨_, rfl⟩
  have z0 : W0.heap.size = w.heap.size + 1 := by rw [← hW0]; simp
  have b0 : Below w.heap.size w W0 := by rw [← hW0]; exact below_new (Below.refl _ _) (Nat.le_refl _)
  have k0 : W0.cell? ⟨w.heap.size, 0, none⟩ = some (.int .i64 t) := by rw [← hW0]; simp [go_sem]
  have cM := hid (IMay_any a cap l W0 hl (hs.below b0) hok)
  have cC := hid (fun W (hB : Below W0.heap.size W0 W) => ConHas_any t w.heap.size a cap l W hl ((hs.below b0).below hB) hok (by have := hB.size; omega) ((hB.cell (p := ⟨w.heap.size, 0, none⟩) (by simp only []; omega)).trans k0))
  obtain ⟨m, hm⟩ : ∃ v, mayL l = v := ⟨_, rfl⟩
  obtain ⟨v, hv⟩ : ∃ v, l.any (fun c => hasC c t) = v := ⟨_, rfl⟩
  rw [hm] at cM ⊢
  rw [hv] at cC ⊢
  have HB0 := hid b0
  have HW0 := hid hW0
  clear hv hm hs hok hW0 z0 b0 k0
  cases m
  · rw [Bool.false_and]
    go_enter Tryz.func10, Tryz.ntmps10
    go_upto_region 1 with fail
    rw [HW0.out]
    go_wp2_with fail
    refine cM.out.mono ?_
    rintro e w1 ⟨rfl, hB1⟩
    have HB1 := hid (HB0.out.trans (hB1.mono HB0.out.size))
    clear hB1
    go_wp2
    go_ret
    exact ⟨rfl, HB1.out⟩
  · rw [Bool.true_and]
    go_enter Tryz.func10, Tryz.ntmps10
    go_upto_region 1 with fail
    rw [HW0.out]
    go_wp2_with fail
    refine cM.out.mono ?_
    rintro e w1 ⟨rfl, hB1⟩
    have HB1 := hid hB1
    clear hB1
    go_wp2_with fail
    refine (cC.out _ HB1.out).mono ?_
    rintro e w2 ⟨rfl, hB2⟩
    have HB2 := hid (HB0.out.trans ((HB1.out.trans (hB2.mono HB1.out.size)).mono HB0.out.size))
    clear hB2
    go_wp2
    go_ret
    exact ⟨rfl, HB2.out⟩
end Go.Proofs.YtgiecadlliblpaaGreat
namespace Go.Proofs.YtgiecadlliblpaaGreat
open Go.RowKit
set_option linter.unusedVariables false

theorem eClz : El Tryz.prog 22 40 (.agg zL.toArray) 30 240 := ⟨Tryz.underlying22, by kernel_rfl, by kernel_rfl, by decide⟩
theorem clL_one (c : Cl) : ∀ u ∈ clList c, u.oneCell' = true := by
  intro u hu
  simp only [clList, List.mem_cons, List.not_mem_nil, or_false] at hu
  rcases hu with rfl | rfl | rfl | rfl | rfl | rfl | rfl | rfl | rfl | rfl | rfl | rfl | rfl | rfl | rfl | rfl | rfl | rfl | rfl | rfl | rfl | rfl | rfl | rfl | rfl | rfl | rfl | rfl | rfl | rfl <;> rfl
theorem clsL_one (l : List Cl) : ∀ u ∈ cls l, u.oneCell' = true := by
  intro u hu
  rw [cls, List.mem_flatMap] at hu
  obtain ⟨c, -, h⟩ := hu
  exact clL_one c u h
theorem heap_new (w : World) (o : Obj) : (w.alloc o).heap[w.heap.size]? = some o := by
  show (w.heap.push o)[w.heap.size]? = some o
  simp
theorem owns_empty {W : World} {base : Nat} (g : Nat) (h : W.heap[g]? = some (.cells #[] 40 (0, 0))) (hb : base ≤ g) : W.ownsRow base 40 30 (.slice (some ⟨g, 0, none⟩) 0 0) 0 [] :=
  ⟨rfl, .inr ⟨g, 0, #[], rfl, hb, h, Nat.le_refl _, by unfold maxLen; omega, rfl, rfl⟩⟩
/-- what a set of the call's own is -/
def OwnR (w w' : World) (l : List Cl) (v : Value) : Prop := w'.ownsRow w.heap.size 40 30 v l.length (cls l)
set_option maxRecDepth 100000 in
set_option maxHeartbeats 1600000 in
theorem Clone_any (a : Option Addr) (cap : Nat) (l : List Cl) (w : World) (hl : l.length ≤ 1000) (hlc : l.length ≤ cap) (hs : Sl w a (cls l)) (hno : a = none → cap = 0) :
    Calls Tryz.prog 19 #[.slice a l.length cap] w fun e w' => (∃ v, e = .returned v ∧ OwnR w w' l v) ∧ Below w.heap.size w w' := by
  cases a with
  | none =>
    have hc := hno rfl
    have hn : l = [] := List.eq_nil_of_length_eq_zero (by omega)
    subst hn
    have hE : Hid (OwnR w w [] (.slice none 0 0)) := World.ownsRow_nil _ _ _ _
    subst hc
    clear hs hno hlc hl
    have hnil := fun W => Lib.run_eql_slice_nil (P := Tryz.prog) W 22 40 none 0 0 0 0 Tryz.underlying22
    go_enter Tryz.func19, Tryz.ntmps19
    go_wp2
    go_ret
    exact ⟨⟨_, rfl, hE.out⟩, Below.refl _ _⟩
  | some ad =>
    have Hs := hid hs
    have Hlc := hid (cls_length l)
    have Hone := hid (clsL_one l)
    clear hs hno
    have hnil := fun W => Lib.run_eql_slice_nil (P := Tryz.prog) W 22 40 (some ad) l.length cap 0 0 Tryz.underlying22
    go_enter Tryz.func19, Tryz.ntmps19
    have hnew := hid (owns_empty (base := w.heap.size) w.heap.size (heap_new w (.cells #[] 40)) (Nat.le_refl _))
    have hba := hid (below_new (o := .cells #[] 40) (Below.refl w.heap.size w) (Nat.le_refl _))
    go_wp2_with (at_builtin; refine appN eClz (.tmp 5) (.tmp 6) rfl rfl rfl rfl hnew.out Hlc.out (Hs.out.below hba.out) (fun h => by cases h) Hone.out (by omega) (by omega) (by simp) ?_)
    intro a1 cap1 w1 h1 h2 h3 h4
    have HO : Hid (OwnR w w1 l (.slice a1 l.length cap1)) := by
      show World.ownsRow _ _ _ _ _ _ _
      simpa using h1
    have HB := hid (hba.out.trans h3)
    clear h1 h2 h3 h4
    go_wp2
    go_ret
    exact ⟨⟨_, rfl, HO.out⟩, HB.out⟩
/-- a row of the call's own, with room and nothing in it -/
theorem owns_room {W : World} {base g cap : Nat} {cur : Array Value} (h : W.heap[g]? = some (.cells cur 40 (0, 0))) (hb : base ≤ g) (hc : cap ≤ maxLen) (hs : cur.size = cap * 30) : W.ownsRow base 40 30 (.slice (some ⟨g, 0, none⟩) 0 cap) 0 [] :=
  ⟨rfl, .inr ⟨g, cap, cur, rfl, hb, h, by omega, hc, hs, by simp⟩⟩
set_option maxRecDepth 100000 in
set_option maxHeartbeats 1600000 in
theorem Grow_any (n : Nat) (w : World) (hn : n ≤ 1000) :
    Calls Tryz.prog 37 #[.slice none 0 0, .int .i64 (n : Nat)] w fun e w' => (∃ v, e = .returned v ∧ OwnR w w' [] v) ∧ Below w.heap.size w w' := by
  by_cases h0 : n = 0
  · subst h0
    have hE : Hid (OwnR w w [] (.slice none 0 0)) := World.ownsRow_nil _ _ _ _
    go_enter Tryz.func37, Tryz.ntmps37
    go_wp2
    go_ret
    exact ⟨⟨_, rfl, hE.out⟩, Below.refl _ _⟩
  · have h0' : 0 < n := by omega
    have h0I : (0 : Int) < n := by omega
    obtain ⟨i, hi, hz0, hz1, hz2⟩ := info_parts eClz.hi
    have hrun := hid (fun ty => Lib.run_append_nil_zeros (P := Tryz.prog) w 22 3 ty 40 i (.agg zL.toArray) .i64 .i64 Tryz.underlying22 Tryz.underlying3 hi hz0 n h0' (by rw [hz1]; decide) (by omega) (by rw [hz2]; omega))
    clear hi hz0 hz1 hz2
    go_enter Tryz.func37, Tryz.ntmps37
    go_wp2_with (at_builtin; refine Lib.wpList_append_run _ rfl (.tmp 20) (.tmp 21) _ _ rfl _ _ rfl rfl _ _ (hrun.out _) ?_)
    go_ret
    have hg := grownCap_ge w n 0 40
    have hm := grownCap_le_maxLen w n 0 40 (by unfold maxLen; omega)
    refine ⟨⟨_, rfl, owns_room (cur := Builtin.zeroCells zL.toArray n ++ Builtin.zeroCells zL.toArray (grownCap w n 0 40 - n)) (heap_new w _) (Nat.le_refl _) hm ?_⟩, (below_new (Below.refl _ _) (Nat.le_refl _)).drew⟩
    rw [Array.size_append, size_zeroCells, size_zeroCells, ← Nat.add_mul]
    show (n + (grownCap w n 0 40 - n)) * 30 = _
    rw [show n + (grownCap w n 0 40 - n) = grownCap w n 0 40 by omega]

/-! ### slices.Concat -/
structure St where
  a : Option Addr
  cap : Nat
  l : List Cl
def stv (s : St) : Value := .slice s.a s.l.length s.cap
def stLen (ss : List St) : Nat := (ss.map (fun s => s.l.length)).sum
def stAll (ss : List St) : List Cl := ss.flatMap (fun s => s.l)
theorem stAll_len (ss : List St) : (stAll ss).length = stLen ss := by
  induction ss with
  | nil => rfl
  | cons s ss ih => rw [show stAll (s :: ss) = s.l ++ stAll ss by simp [stAll], List.length_append, ih]; simp [stLen]
theorem stLen_snoc (ss : List St) (s : St) : stLen (ss ++ [s]) = stLen ss + s.l.length := by simp [stLen]
theorem stAll_snoc (ss : List St) (s : St) : stAll (ss ++ [s]) = stAll ss ++ s.l := by simp [stAll]
theorem stLen_take (ss : List St) (k : Nat) : stLen (ss.take k) ≤ stLen ss := by
  have h : stLen ss = stLen (ss.take k) + stLen (ss.drop k) := by
    rw [stLen, stLen, stLen, ← List.sum_append, ← List.map_append, List.take_append_drop]
  omega
theorem Sl.atSt {w : World} {a : Option Addr} {l : List St} (h : Sl w a (l.map stv)) {k : Nat} (hk : k < l.length) :
    ∃ b off, a = some ⟨b, off, none⟩ ∧ b < w.heap.size ∧ w.cell? ⟨b, off + k, none⟩ = some (stv l[k]) := by
  obtain ⟨b, off, rfl, hlt, hc⟩ := Sl.at h (k := k) (by simpa using hk)
  exact ⟨b, off, rfl, hlt, by rw [hc k (by simpa using hk)]; simp⟩
set_option maxRecDepth 100000 in
set_option maxHeartbeats 3200000 in
theorem Concat_any (a : Option Addr) (cap : Nat) (ss : List St) (w : World) (hl : ss.length ≤ 1000) (hs : Sl w a (ss.map stv)) (hlen : stLen ss ≤ 1000) (hok : ∀ s ∈ ss, Sl w s.a (cls s.l) ∧ (s.a = none → s.cap = 0)) :
    Calls Tryz.prog 20 #[.slice a ss.length cap] w fun e w' => (∃ v, e = .returned v ∧ OwnR w w' (stAll ss) v) ∧ Below w.heap.size w w' := by
  have Hs := hid hs
  have Hok := hid hok
  have cG := hid (Grow_any (stLen ss) w hlen)
  clear hs hok
  go_enter Tryz.func20, Tryz.ntmps20
  go_wp2_with fail
  go_loop [3, 11] (fun z i => ∃ k : Nat, i = .int .i64 k ∧ k ≤ ss.length ∧ z = .int .i64 (stLen (ss.take k) : Nat)) (fun _ i => ss.length - (intOf i).toNat)
  case atStart => exact ⟨0, rfl, by omega, rfl⟩
  case round =>
    obtain ⟨k, rfl, hk, rfl⟩ := hrel
    have hle := stLen_take ss k
    by_cases hlt : k < ss.length
    · have hltI : (k : Int) < ss.length := by omega
      obtain ⟨b, off, rfl, hbk, hc⟩ := Hs.out.atSt hlt
      have ts := take_snoc ss k hlt
      have hsn := stLen_snoc (ss.take k) ss[k]
      rw [← ts] at hsn
      have hle2 := stLen_take ss (k + 1)
      obtain ⟨s, hse⟩ : ∃ s, ss[k] = s := ⟨_, rfl⟩
      rw [hse] at hc hsn
      rw [stv] at hc
      obtain ⟨Z, hZ⟩ : ∃ Z, stLen (ss.take k) = Z := ⟨_, rfl⟩
      rw [hZ] at hsn hle ⊢
      have Hsn := hid hsn
      have hb1 : Z + s.l.length ≤ 1000 := by omega
      clear ts hsn hse hZ hle2
      have hnn : (0 : Int) ≤ (Z : Int) + s.l.length := by omega
      have hneg : ¬ ((Z : Int) + s.l.length < 0) := by omega
      go_wp2
      go_round
      case rel => exact ⟨k + 1, by go_num, by omega, by rw [Hsn.out]; go_num⟩
      case measure => simp [intOf]; omega
    · have hltI : ¬ (k : Int) < ss.length := by omega
      have hall : ss.take k = ss := List.take_of_length_le (by omega)
      rw [hall]
      have Hall := hid hall
      clear hall hle
      go_wp2_with fail
      refine cG.out.mono ?_
      rintro e w1 ⟨⟨v, rfl, hO⟩, hB1⟩
      have HO := hid hO
      have HB1 := hid hB1
      clear hO hB1
      go_wp2_with fail
      go_loopw [6, 27] (fun v i wr => ∃ k : Nat, i = .int .i64 k ∧ k ≤ ss.length ∧ Hid (OwnR w wr (stAll (ss.take k)) v) ∧ Hid (Below w.heap.size w wr)) (fun _ i _ => ss.length - (intOf i).toNat)
      case atStart => exact ⟨0, rfl, by omega, HO, HB1⟩
      case round =>
        obtain ⟨k, rfl, hk, HI, HB⟩ := hrel
        by_cases hlt : k < ss.length
        · have hltI : (k : Int) < ss.length := by omega
          obtain ⟨b, off, rfl, hbk, hc⟩ := Hs.out.atSt hlt
          have hc' := (HB.out.cell (p := ⟨b, off + k, none⟩) hbk).trans hc
          have hmem := Hok.out _ (List.getElem_mem hlt)
          have ts := take_snoc ss k hlt
          have hal := stAll_snoc (ss.take k) ss[k]
          rw [← ts] at hal
          have hle1 := stLen_take ss k
          have hle2 := stLen_take ss (k + 1)
          rw [← stAll_len, ← stAll_len] at hle1
          rw [← stAll_len, ← stAll_len (ss := ss)] at hle2
          have hlen' := hlen
          rw [← stAll_len] at hlen'
          obtain ⟨s, hse⟩ : ∃ s, ss[k] = s := ⟨_, rfl⟩
          rw [hse] at hc' hal hmem
          rw [stv] at hc'
          obtain ⟨L, hL⟩ : ∃ L, stAll (ss.take k) = L := ⟨_, rfl⟩
          rw [hL] at hal hle1 HI
          rw [hal, List.length_append] at hle2
          have Hal := hid hal
          have Hmem := hid (And.intro (hmem.1.below HB.out) hmem.2)
          have hbsz := HB.out.size
          have Hlc := hid (cls_length s.l)
          have Hone := hid (clsL_one s.l)
          have Hcat : Hid (cls L ++ cls s.l = cls (L ++ s.l)) := by show _ = _; simp [cls]
          clear hc ts hal hmem hse hL hle1
          go_wp2_with (at_builtin; refine appN eClz (.tmp 31) (.tmp 32) rfl rfl rfl rfl HI.out Hlc.out Hmem.out.1 Hmem.out.2 Hone.out (by omega) (by omega) hbsz ?_)
          intro a1 cap1 w2 h1 h2 h3 h4
          have HO2 : Hid (OwnR w w2 (L ++ s.l) (.slice a1 (L.length + s.l.length) cap1)) := by
            show World.ownsRow _ _ _ _ _ _ _
            rw [List.length_append, ← Hcat.out]; exact h1
          have HB2 := hid (HB.out.trans h3)
          clear h1 h2 h3 h4
          go_wp2
          exact ⟨⟨k + 1, by go_num, by omega, by rw [Hal.out]; exact HO2, HB2⟩, by simp [intOf]; omega⟩
        · have hltI : ¬ (k : Int) < ss.length := by omega
          rw [List.take_of_length_le (show ss.length ≤ k by omega)] at HI
          go_wp2
          go_ret
          exact ⟨⟨_, rfl, HI.out⟩, HB.out⟩
end Go.Proofs.YtgiecadlliblpaaGreat
namespace Go.Proofs.YtgiecadlliblpaaGreat
open Go.RowKit
set_option linter.unusedVariables false

def faultL (l : List Cl) : Int := if 8 < l.length then 5 else if l.all mayC then 0 else 1
def outL (l : List Cl) : List Cl := if faultL l = 0 then l else []
theorem outL_mem {l : List Cl} {c : Cl} (h : c ∈ outL l) : c ∈ l := by
  rw [outL] at h
  split at h
  · exact h
  · cases h
theorem may_fault (l : List Cl) : mayL l = decide (faultL l = 0) := by
  rw [mayL, faultL]
  by_cases h : 8 < l.length
  · rw [if_pos h, decide_eq_false (by omega)]; rfl
  · rw [if_neg h, decide_eq_true (show l.length ≤ 8 by omega), Bool.true_and]
    cases l.all mayC <;> rfl
def OfR (w w' : World) (l : List Cl) (e : Ending) : Prop := ∃ v, e = .returned (.tuple #[v, .int .i64 (faultL l)]) ∧ OwnR w w' (outL l) v
set_option maxRecDepth 100000 in
set_option maxHeartbeats 1600000 in
theorem IOf_any (a : Option Addr) (cap : Nat) (l : List Cl) (w : World) (hl : l.length ≤ 9223372036854775807) (hlc : l.length ≤ cap) (hs : Sl w a (cls l)) (hno : a = none → cap = 0) (hok : ∀ c ∈ l, c.Ok) :
    Calls Tryz.prog 6 #[.slice a l.length cap] w fun e w' => OfR w w' l e ∧ Below w.heap.size w w' := by
  have cM := hid (IMay_any a cap l w hl hs hok)
  have cC := hid (fun W (hB : Below w.heap.size w W) h => Clone_any a cap l W h hlc (hs.below hB) hno)
  have hmf := may_fault l
  by_cases h8 : 8 < l.length
  · have hf : faultL l = 5 := if_pos h8
    have hE : Hid (OfR w w l (.returned (.tuple #[.slice none 0 0, .int .i64 5]))) := ⟨_, by rw [hf], by rw [outL, hf]; exact World.ownsRow_nil _ _ _ _⟩
    have h8I : (8 : Int) < l.length := by omega
    have h8J : decide ((8 : Int) < l.length) = true := decide_eq_true h8I
    clear hf hmf hs hok hno
    go_enter Tryz.func6, Tryz.ntmps6
    go_wp2
    go_ret2
    exact ⟨hE.out, Below.refl _ _⟩
  · have h8I : ¬ (8 : Int) < l.length := by omega
    have h8J : decide ((8 : Int) < l.length) = false := decide_eq_false h8I
    cases hm : l.all mayC
    · have hf : faultL l = 1 := by rw [faultL, if_neg h8, hm]; rfl
      have hE : Hid (∀ W, OfR w W l (.returned (.tuple #[.slice none 0 0, .int .i64 1]))) := fun W => ⟨_, by rw [hf], by rw [outL, hf]; exact World.ownsRow_nil _ _ _ _⟩
      rw [hmf, hf] at cM
      clear hf hmf hs hok hno hm
      have cM' : Hid (Calls Tryz.prog 9 #[.slice a l.length cap] w fun e w' => e = .returned (.bool false) ∧ Below w.heap.size w w') := cM.out
      go_enter Tryz.func6, Tryz.ntmps6
      go_wp2_with fail
      refine cM'.out.mono ?_
      rintro e w1 ⟨rfl, hB1⟩
      have HB1 := hid hB1
      clear hB1
      go_wp2
      go_ret2
      exact ⟨hE.out _, HB1.out⟩
    · have hf : faultL l = 0 := by rw [faultL, if_neg h8, hm]; rfl
      have ho : outL l = l := by rw [outL, if_pos hf]
      have hE : Hid (∀ W v, OwnR w W l v → OfR w W l (.returned (.tuple #[v, .int .i64 0]))) := fun W v h => ⟨v, by rw [hf], by rw [ho]; exact h⟩
      rw [hmf, hf] at cM
      clear hf hmf hs hok hno hm ho
      have cM' : Hid (Calls Tryz.prog 9 #[.slice a l.length cap] w fun e w' => e = .returned (.bool true) ∧ Below w.heap.size w w') := cM.out
      go_enter Tryz.func6, Tryz.ntmps6
      go_wp2_with fail
      refine cM'.out.mono ?_
      rintro e w1 ⟨rfl, hB1⟩
      have HB1 := hid hB1
      clear hB1
      go_wp2_with fail
      refine (cC.out _ HB1.out (by omega)).mono ?_
      rintro e w2 ⟨⟨v, rfl, hO⟩, hB2⟩
      have HB2 := hid (HB1.out.trans (hB2.mono HB1.out.size))
      have hO2 : OwnR w w2 l v := owns_base hO HB1.out.size
      have HO := hid (hE.out w2 v hO2)
      clear hB2 hO hO2
      go_wp2
      go_ret2
      exact ⟨HO.out, HB2.out⟩
theorem OfR.base {w w1 w' : World} {l : List Cl} {e : Ending} (h : OfR w1 w' l e) (hs : w.heap.size ≤ w1.heap.size) : OfR w w' l e := by
  obtain ⟨v, h1, h2⟩ := h
  exact ⟨v, h1, owns_base h2 hs⟩
set_option maxRecDepth 100000 in
set_option maxHeartbeats 1600000 in
theorem IJoin_any (a : Option Addr) (cap : Nat) (ss : List St) (w : World) (hl : ss.length ≤ 1000) (hs : Sl w a (ss.map stv)) (hlen : stLen ss ≤ 1000) (hss : ∀ s ∈ ss, Sl w s.a (cls s.l) ∧ (s.a = none → s.cap = 0)) (hok : ∀ c ∈ stAll ss, c.Ok) :
    Calls Tryz.prog 7 #[.slice a ss.length cap] w fun e w' => OfR w w' (stAll ss) e ∧ Below w.heap.size w w' := by
  have cC := hid (Concat_any a cap ss w hl hs hlen hss)
  have hL := stAll_len ss
  obtain ⟨L, hLe⟩ : ∃ L, stAll ss = L := ⟨_, rfl⟩
  rw [hLe] at cC hok hL ⊢
  have hL1 : L.length ≤ 1000 := by omega
  have Hok := hid hok
  clear hs hss hok hLe hL hlen
  go_enter Tryz.func7, Tryz.ntmps7
  go_wp2_with fail
  refine cC.out.mono ?_
  rintro e w1 ⟨⟨v, rfl, hO⟩, hB1⟩
  have hnone : ∀ a cap, v = .slice a L.length cap → a = none → cap = 0 := fun a cap e => by subst e; exact owns_none hO
  obtain ⟨a1, cap1, rfl, hsl, -⟩ := owns_form hO
  have hle : L.length ≤ cap1 := by
    rcases hO.2 with ⟨e1, e2⟩ | ⟨g, c, cur, e1, _, _, e2, _⟩
    · simp only [Value.slice.injEq] at e1; omega
    · simp only [Value.slice.injEq] at e1; omega
  have HB1 := hid hB1
  have cO := hid (IOf_any a1 cap1 L w1 (by omega) hle hsl (hnone a1 cap1 rfl) Hok.out)
  clear hO hB1 hsl hnone
  go_wp2_with fail
  refine cO.out.mono ?_
  rintro e w2 ⟨hR, hB2⟩
  have HB2 := hid (HB1.out.trans (hB2.mono HB1.out.size))
  have hR2 := hR.base (w := w) HB1.out.size
  obtain ⟨v, rfl, hv⟩ := hR2
  have HR : Hid (OfR w w2 L (.returned (.tuple #[v, .int .i64 (faultL L)]))) := ⟨v, rfl, hv⟩
  obtain ⟨F, hF⟩ : ∃ F, faultL L = F := ⟨_, rfl⟩
  rw [hF] at HR ⊢
  clear hB2 hR hv hF
  go_wp2
  go_ret2
  exact ⟨HR.out, HB2.out⟩
set_option maxHeartbeats 1600000 in
theorem IWhole_any (w : World) : Calls Tryz.prog 18 #[] w fun e w' => (∃ g, e = .returned (.slice (some ⟨g, 0, none⟩) 1 1) ∧ OwnR w w' [fullCl] (.slice (some ⟨g, 0, none⟩) 1 1)) ∧ Below w.heap.size w w' := by
  have cF := hid (Full_any w)
  obtain ⟨F, hF⟩ : ∃ F, fullCl = F := ⟨_, rfl⟩
  rw [hF] at cF ⊢
  clear hF
  go_enter Tryz.func18, Tryz.ntmps18
  go_wp2_with fail
  refine cF.out.mono ?_
  rintro e w1 ⟨rfl, hB1⟩
  have HB1 := hid hB1
  clear hB1
  go_wp2
  go_ret
  refine ⟨⟨w1.heap.size, rfl, ?_⟩, HB1.out.trans ((below_new (Below.refl _ _) (Nat.le_refl _)).mono HB1.out.size)⟩
  refine ⟨rfl, .inr ⟨w1.heap.size, 1, (clList F).toArray, rfl, HB1.out.size, heap_new w1 _, Nat.le_refl _, by unfold maxLen; omega, rfl, ?_⟩⟩
  rw [show cls [F] = clList F from List.append_nil _]; rfl
end Go.Proofs.YtgiecadlliblpaaGreat

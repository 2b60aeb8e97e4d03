/-
  clause.Span, clause.Same, clause.Has.
-/
import Derived.Test.YtgiecadlliblpaaGreatClSpan
import Derived.Test.YtgiecadlliblpaaGreatClLive
import Derived.Test.YtgiecadlliblpaaGreatTod
namespace Go.Proofs.YtgiecadlliblpaaGreat
open Go.RowKit
set_option linter.unusedVariables false

attribute [local go_sem ↓] loadAt_cl
theorem clB_new2 (w : World) (c : Cl) (t : TypeId) (x : Obj) : ClB ((w.alloc (.cells (clList c).toArray t)).alloc x) w.heap.size c :=
  (clB_new w c t).below (below_new (Below.refl _ _) (Nat.le_refl _)) (by simp)
set_option maxRecDepth 100000 in
set_option maxHeartbeats 1600000 in
theorem CSpan_any (c : Cl) (w : World) : Calls Tryz.prog 35 #[clv c] w fun e w' => e = .returned (spv (heldF c.fr c.un) (heldU c.fr c.un)) ∧ Below w.heap.size w w' := by
  have c0 := hid (fun W => SHeld_any c.fr c.un W)
  obtain ⟨a, ha⟩ : ∃ a, heldF c.fr c.un = a := ⟨_, rfl⟩
  obtain ⟨b, hb⟩ : ∃ b, heldU c.fr c.un = b := ⟨_, rfl⟩
  rw [ha, hb] at c0 ⊢
  clear ha hb
  obtain ⟨-, -, -, t3, t4⟩ := (clB_new2 w c 40 (.cells #[.int .i64 0, .int .i64 0] 44)).tail
  go_enter Tryz.func35, Tryz.ntmps35
  go_wp2_with fail
  refine (c0.out _).mono ?_
  rintro e w1 ⟨rfl, hB1⟩
  have c1 := (hB1.cell (p := ⟨w.heap.size + 1, 0, none⟩) (by simp)).trans (show _ = some (.int .i64 0) by simp [go_sem])
  have c2 := (hB1.cell (p := ⟨w.heap.size + 1, 1, none⟩) (by simp)).trans (show _ = some (.int .i64 0) by simp [go_sem])
  have f1 := (hB1.frozen (p := ⟨w.heap.size + 1, 0, none⟩) (by simp)).trans (show _ = false by simp [go_sem])
  have f2 := (hB1.frozen (p := ⟨w.heap.size + 1, 1, none⟩) (by simp)).trans (show _ = false by simp [go_sem])
  have HB1 : Hid (Below w.heap.size w w1) := (below_new (below_new (Below.refl _ _) (Nat.le_refl _)) (by simp)).trans (hB1.mono (by simp only [World.size_alloc]; omega))
  clear hB1 t3 t4
  go_wp2
  exact bodyPost_ret (results_cell_mid rfl _ _ (w.heap.size + 1) 0 _ _ rfl (range_two c1 c2) Tryz.underlying44 rfl infoSp) rfl ⟨rfl, below_set (below_set HB1.out (by omega)) (by omega)⟩
/-- the comparison of two clauses, kept whole in a walk -/
def eqlClS (a b : Value) : Sem Value := binOp .eql 40 a b
theorem eql_clS (a b : Value) : binOp .eql 40 a b = eqlClS a b := rfl
attribute [local go_sem ↓] eql_clS
theorem eqlS_run (c c' : Cl) (w : World) (h : c.Ok) (h' : c'.Ok) : (eqlClS (clv c) (clv c')).run Tryz.prog w = .ok (.bool (clSame c c')) w := eql_cl c c' w h h'
def betB (f u t : Int) : Bool := decide (f ≤ t) && decide (t ≤ u)
theorem inSp_held {f u t : Int} (h0 : 0 ≤ t) (h1 : t < 12622780800) : inSp (heldF f u) (heldU f u) t = betB f u t := by
  rw [inSp_win h0 h1, betB, Bool.eq_iff_iff]
  simp only [Bool.and_eq_true, decide_eq_true_eq]
  rcases held_cases f u with ⟨e1, e2, h3⟩ | ⟨e1, e2, h3⟩ <;> rw [e1, e2] <;> omega
/-- has an instant a clause? -/
def hasC (c : Cl) (t : Int) : Bool := winB t && (mayC c && (betB c.fr c.un t && (todIn (t % 86400) (c.m 2) (c.m 1) (c.m 0) && (onB c.unit c.step c.anchor t && dayC c (t / 86400)))))
set_option maxRecDepth 100000 in
set_option maxHeartbeats 3200000 in
theorem CHas_any (c : Cl) (t : Int) (w : World) (hc : c.Ok) : Calls Tryz.prog 24 #[clv c, .int .i64 t] w fun e w' => e = .returned (.bool (hasC c t)) ∧ Below w.heap.size w w' := by
  have hC := clB_new w c 40
  have HB0 : Hid (Below w.heap.size w (w.alloc (.cells (clList c).toArray 40))) := below_new (Below.refl _ _) (Nat.le_refl _)
  rcases win_cases t with ⟨hw, h0, h1⟩ | ⟨hw, h⟩
  · have hr : hasC c t = (mayC c && (betB c.fr c.un t && (todIn (t % 86400) (c.m 2) (c.m 1) (c.m 0) && (onB c.unit c.step c.anchor t && dayC c (t / 86400))))) := by rw [hasC, hw, Bool.true_and]
    rw [hr]
    clear hr hw
    have cS := hid (fun W => Split_yes t W h0 h1)
    have cM := hid (fun W => CMayCl_any c W hc)
    have cSp := hid (fun W => CSpan_any c W)
    have cI := hid (fun W => SIn_any (heldF c.fr c.un) (heldU c.fr c.un) t W)
    rw [inSp_held h0 h1] at cI
    have cT := hid (fun W => In_any (t % 86400) (c.m 2) (c.m 1) (c.m 0) W (hc.m 2 (by omega)) (hc.m 1 (by omega)) (hc.m 0 (by omega)))
    have cO := hid (fun W => UOn_any c.unit c.step c.anchor t W hc.step)
    have cSh := hid (fun W => Shape_any (t / 86400) W (by omega) (by omega))
    have cD := hid (fun W => CDay_any c (t / 86400) W hc (by omega) (by omega))
    obtain ⟨a0, a1, a2, a3, a4, a5, a6, a7, a8, a9, hsh⟩ := shN_ten (t / 86400)
    rw [hsh] at cSh cD
    obtain ⟨f, hf⟩ : ∃ a, heldF c.fr c.un = a := ⟨_, rfl⟩
    obtain ⟨u, hu⟩ : ∃ a, heldU c.fr c.un = a := ⟨_, rfl⟩
    obtain ⟨b1, hb1⟩ : ∃ b, mayC c = b := ⟨_, rfl⟩
    obtain ⟨b2, hb2⟩ : ∃ b, betB c.fr c.un t = b := ⟨_, rfl⟩
    obtain ⟨b3, hb3⟩ : ∃ b, todIn (t % 86400) (c.m 2) (c.m 1) (c.m 0) = b := ⟨_, rfl⟩
    obtain ⟨b4, hb4⟩ : ∃ b, onB c.unit c.step c.anchor t = b := ⟨_, rfl⟩
    obtain ⟨b5, hb5⟩ : ∃ b, dayC c (t / 86400) = b := ⟨_, rfl⟩
    rw [hf, hu] at cSp cI
    rw [hb1] at cM ⊢
    rw [hb2] at cI ⊢
    rw [hb3] at cT ⊢
    rw [hb4] at cO ⊢
    rw [hb5] at cD ⊢
    obtain ⟨n, hn⟩ : ∃ n, t / 86400 = n := ⟨_, rfl⟩
    obtain ⟨s, hs⟩ : ∃ s, t % 86400 = s := ⟨_, rfl⟩
    rw [hn] at cS cSh
    rw [hs] at cS cT
    clear hf hu hb1 hb2 hb3 hb4 hb5 hsh hn hs h0 h1 hc
    have l0 := hC.ld
    have HC := hid hC
    clear hC
    go_enter Tryz.func24, Tryz.ntmps24
    go_wp2_with fail
    refine (cS.out _).mono ?_
    rintro e w' ⟨rfl, rfl⟩
    go_wp2_with fail
    refine (cM.out _).mono ?_
    rintro e w1 ⟨rfl, hB⟩
    have HB1 : Hid (Below w.heap.size w w1) := HB0.out.trans (hB.mono (by simp))
    have HC1 := hid (HC.out.below hB (by simp))
    have Hs1 : Hid (w.heap.size < w1.heap.size) := by have := hB.size; rw [World.size_alloc] at this; exact this
    clear hB l0 HC
    cases b1
    · go_wp2
      go_ret
      exact ⟨rfl, HB1.out⟩
    have l1 := HC1.out.ld
    go_wp2_with fail
    refine (cSp.out _).mono ?_
    rintro e w2 ⟨rfl, hB⟩
    have HB2 : Hid (Below w.heap.size w w2) := HB1.out.trans (hB.mono (Nat.le_of_lt Hs1.out))
    have HC2 := hid (HC1.out.below hB Hs1.out)
    have Hs2 : Hid (w.heap.size < w2.heap.size) := Nat.lt_of_lt_of_le Hs1.out hB.size
    clear hB l1 HC1
    go_wp2_with fail
    refine (cI.out _).mono ?_
    rintro e w3 ⟨rfl, hB⟩
    have HB3 : Hid (Below w.heap.size w w3) := HB2.out.trans (hB.mono (Nat.le_of_lt Hs2.out))
    have HC3 := hid (HC2.out.below hB Hs2.out)
    have Hs3 : Hid (w.heap.size < w3.heap.size) := Nat.lt_of_lt_of_le Hs2.out hB.size
    clear hB HC2
    cases b2
    · go_wp2
      go_ret
      exact ⟨rfl, HB3.out⟩
    obtain ⟨r0, r1, r2, -, -, -, -⟩ := HC3.out.masks
    go_wp2_with fail
    refine (cT.out _).mono ?_
    rintro e w' ⟨rfl, rfl⟩
    clear r0 r1 r2
    cases b3
    · go_wp2
      go_ret
      exact ⟨rfl, HB3.out⟩
    obtain ⟨t0, t1, t2, -, -⟩ := HC3.out.tail
    go_wp2_with fail
    refine (cO.out _).mono ?_
    rintro e w4 ⟨rfl, hB⟩
    have HB4 : Hid (Below w.heap.size w w4) := HB3.out.trans (hB.mono (Nat.le_of_lt Hs3.out))
    have HC4 := hid (HC3.out.below hB Hs3.out)
    have Hs4 : Hid (w.heap.size < w4.heap.size) := Nat.lt_of_lt_of_le Hs3.out hB.size
    clear hB t0 t1 t2 HC3
    cases b4
    · go_wp2
      go_ret
      exact ⟨rfl, HB4.out⟩
    go_wp2_with fail
    refine (cSh.out _).mono ?_
    rintro e w5 ⟨rfl, hB⟩
    have HB5 : Hid (Below w.heap.size w w5) := HB4.out.trans (hB.mono (Nat.le_of_lt Hs4.out))
    have HC5 := hid (HC4.out.below hB Hs4.out)
    have Hs5 : Hid (w.heap.size < w5.heap.size) := Nat.lt_of_lt_of_le Hs4.out hB.size
    clear hB HC4
    have HB6 := hid (below_new (o := .cells #[.int .i64 a0, .int .i64 a1, .int .i64 a2, .int .i64 a3, .int .i64 a4, .int .i64 a5, .int .i64 a6, .int .i64 a7, .int .i64 a8, .int .i64 a9] 53) HB5.out (Nat.le_of_lt Hs5.out))
    have l6 := (HC5.out.below (below_new (o := .cells #[.int .i64 a0, .int .i64 a1, .int .i64 a2, .int .i64 a3, .int .i64 a4, .int .i64 a5, .int .i64 a6, .int .i64 a7, .int .i64 a8, .int .i64 a9] 53) (Below.refl _ _) (Nat.le_refl _)) Hs5.out).ld
    go_wp2_with fail
    refine (cD.out _).mono ?_
    rintro e w7 ⟨rfl, hB⟩
    have HB7 : Hid (Below w.heap.size w w7) := HB6.out.trans (hB.mono (by have := Hs5.out; simp only [World.size_alloc]; omega))
    clear hB l6
    go_wp2
    go_ret
    exact ⟨rfl, HB7.out⟩
  · have hr : hasC c t = false := by rw [hasC, hw, Bool.false_and]
    rw [hr]
    have cS := hid (fun W => Split_no t W hw)
    clear hr h hc hC hw
    go_enter Tryz.func24, Tryz.ntmps24
    go_wp2_with fail
    refine (cS.out _).mono ?_
    rintro e w' ⟨rfl, rfl⟩
    go_wp2
    go_ret
    exact ⟨rfl, HB0.out⟩
end Go.Proofs.YtgiecadlliblpaaGreat

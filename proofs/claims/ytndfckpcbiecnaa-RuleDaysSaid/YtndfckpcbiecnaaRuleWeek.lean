/-
  rule.Week.
-/
import Derived.Test.YtndfckpcbiecnaaRuleOk
namespace Go.Proofs.Ytndfckpcbiecnaa
open Go.RowKit
set_option linter.unusedVariables false

theorem MOf1_any (x : Int) (W : World) (t : TypeId) : Calls Try.prog 82 #[.slice (some ⟨W.heap.size, 0, none⟩) 1 1] (W.alloc (.cells #[.int .i64 x] t)) fun e w' => e = .returned (.int .u64 (ofM [x])) ∧ Below W.heap.size W w' := by
  have hb : Below W.heap.size W (W.alloc (.cells #[.int .i64 x] t)) := below_new (Below.refl _ _) (Nat.le_refl _)
  exact (MOf_any (some ⟨W.heap.size, 0, none⟩) 1 [x] (W.alloc (.cells #[.int .i64 x] t)) (by simp) (sl_range (range_new W [.int .i64 x] t) (by simp))).mono fun e w' ⟨he, h⟩ => ⟨he, hb.trans (h.mono hb.size)⟩
theorem win_in {t : Int} (h : winB t = true) : 0 ≤ t ∧ t < 12622780800 := by
  rcases win_cases t with ⟨-, h0, h1⟩ | ⟨e, -⟩
  · exact ⟨h0, h1⟩
  · rw [h] at e; cases e
theorem field6_run (F : Cl) (W : World) : (Instr.field 28 (clv F) 6).run Try.prog W = .ok (.int .u64 (F.m 6 : Nat)) W := by kernel_rfl
structure WeF (w : World) (r : Ru) (W : World) : Prop where
  rb : RuB W w.heap.size r
  z : TenX W (w.heap.size + 1) (.int .i64 0) (.bool false) (.int .u64 0) (.int .u64 0) (.int .u64 0) (.int .u64 0) (.int .u64 0) (.int .u64 0) (.int .u64 0) (.int .u64 0)
  be : Below w.heap.size w W
  l : w.heap.size + 1 < W.heap.size
theorem WeF.keep {w W W' : World} {r : Ru} (k : WeF w r W) (hb : Below W.heap.size W W') : WeF w r W' := by
  have hs := hb.size
  have l := k.l
  exact ⟨k.rb.below hb (by omega), k.z.below hb l, k.be.trans (hb.mono (by omega)), by omega⟩
theorem weF_new (w : World) (r : Ru) (t t' : TypeId) : WeF w r ((w.alloc (.cells (ruList r).toArray t)).alloc (.cells #[.int .i64 0, .bool false, .int .u64 0, .int .u64 0, .int .u64 0, .int .u64 0, .int .u64 0, .int .u64 0, .int .u64 0, .int .u64 0] t')) := by
  have h := tenX_new (w.alloc (.cells (ruList r).toArray t)) (.int .i64 0) (.bool false) (.int .u64 0) (.int .u64 0) (.int .u64 0) (.int .u64 0) (.int .u64 0) (.int .u64 0) (.int .u64 0) (.int .u64 0) t'
  rw [World.size_alloc] at h
  exact ⟨(ruB_new w r t).below (below_new (Below.refl _ _) (Nat.le_refl _)) (by simp), h, below_new (below_new (Below.refl _ _) (Nat.le_refl _)) (by simp), by simp only [World.size_alloc]; omega⟩
def wdI (n : Int) : Int := (n % 7 + 3) % 7 + 1
abbrev zeroOrd : Value := .agg #[.int .i64 0, .bool false, .int .u64 0, .int .u64 0, .int .u64 0, .int .u64 0, .int .u64 0, .int .u64 0, .int .u64 0, .int .u64 0]
/-- what Week answers -/
def weekM (r : Ru) : Nat := if checkE r = 0 then (if r.l7 = [] then (if r.fq = 4 then ofM [wdI (r.st / 86400)] else fullCl.m 6) else if outB 0 0 (nsL r) = true then fullCl.m 6 else wkM r.l7) else 0
def weekIn (r : Ru) : Int := if r.fq = 6 ∧ r.l5.length = 0 then 2 else 1
def weekBk (r : Ru) : Bool := decide ((nsL r).headD 0 < 0)
def weekO (r : Ru) : Value := if checkE r = 0 ∧ outB 0 0 (nsL r) = true then ordv (weekIn r) (weekBk r) (wkD r.l7) else zeroOrd
set_option maxRecDepth 100000 in
set_option maxHeartbeats 6400000 in
theorem Week_no (r : Ru) (w : World) (hr : RuS w r) (hm : r.Sm 1000000) (hc : ¬ checkE r = 0) : Calls Try.prog 41 #[ruv r] w fun e w' => e = .returned (.tuple #[.int .u64 (weekM r : Nat), weekO r]) ∧ Below w.heap.size w w' := by
  have hB0 := (weF_new w r 34 25).be
  have HF0 := hid (weF_new w r 34 25)
  have cB := hid (Begin_any r _ (hr.below hB0) hm)
  have cF := hid (fun W => Full_any W)
  have hfd : ∀ W, (Instr.field 28 (clv fullCl) 6).run Try.prog W = .ok (.int .u64 (fullCl.m 6 : Nat)) W := fun W => field6_run fullCl W
  obtain ⟨y, mo, d, h, m, s, hst⟩ := stampV_six r.st
  rw [hst] at cB
  have e1 : weekM r = 0 := by rw [weekM, if_neg hc]
  have e2 : weekO r = zeroOrd := by rw [weekO, if_neg (fun h => hc h.1)]
  rw [e1, e2]
  clear e1 e2
  have hb : (checkE r == 0) = false := by simpa using hc
  rw [hb] at cB
  clear hr hm hst hB0 hb hc
  go_enter Try.func41, Try.ntmps41
  go_wp2_with fail
  refine cB.out.mono ?_
  rintro e w1 ⟨rfl, hB1⟩
  have HF1 := hid ((HF0.out.keep hB1).keep (below_new (o := .cells #[.int .i64 y, .int .i64 mo, .int .i64 d, .int .i64 h, .int .i64 m, .int .i64 s] 123) (Below.refl w1.heap.size w1) (Nat.le_refl _)))
  clear hB1
  go_wp2_with fail
  refine (cF.out _).mono ?_
  rintro e w2 ⟨rfl, hB2⟩
  have HF2 := hid (HF1.out.keep hB2)
  clear hB2
  obtain ⟨⟨k0, k1, k2, k3, k4⟩, k5, k6, k7, k8, k9, kx⟩ := HF2.out.rb.all
  obtain ⟨⟨z0, z1, z2, z3, z4, z5, z6, z7, z8, z9⟩, f0, f1, f2, f3, f4, f5, f6, f7, f8, f9⟩ := HF2.out.z
  go_wp2
  exact bodyPost_ret (results_cell_midR rfl _ _ (w.heap.size + 1) 0 _ _ rfl (tenX_put HF2.out.z.there _ _ _ _ _ _ _ _ _ _) Try.underlying25 rfl infoOrd) rfl ⟨rfl, tenX_below HF2.out.be (by omega) _ _ _ _ _ _ _ _ _ _⟩
set_option maxRecDepth 100000 in
set_option maxHeartbeats 6400000 in
theorem Week_nil (r : Ru) (w : World) (hr : RuS w r) (hm : r.Sm 1000000) (hc : checkE r = 0) (h7 : r.l7 = []) : Calls Try.prog 41 #[ruv r] w fun e w' => e = .returned (.tuple #[.int .u64 (weekM r : Nat), weekO r]) ∧ Below w.heap.size w w' := by
  have hn : nsL r = [] := by rw [nsL, h7]; rfl
  have hB0 := (weF_new w r 34 25).be
  have HF0 := hid (weF_new w r 34 25)
  have cB := hid (Begin_any r _ (hr.below hB0) hm)
  have cF := hid (fun W => Full_any W)
  have hfd : ∀ W, (Instr.field 28 (clv fullCl) 6).run Try.prog W = .ok (.int .u64 (fullCl.m 6 : Nat)) W := fun W => field6_run fullCl W
  obtain ⟨y, mo, d, h, m, s, hst⟩ := stampV_six r.st
  rw [hst] at cB
  have e1 : weekM r = if r.fq = 4 then ofM [wdI (r.st / 86400)] else fullCl.m 6 := by rw [weekM, if_pos hc, if_pos h7]
  have e2 : weekO r = zeroOrd := by rw [weekO, if_neg (fun h => by have h2 := h.2; rw [hn] at h2; cases h2)]
  rw [e1, e2]
  clear e1 e2
  have hb : (checkE r == 0) = true := by simpa using hc
  rw [hb] at cB
  have hl : ((r.l7.length : Int) == 0) = true := by rw [h7]; rfl
  obtain ⟨h0, h1⟩ := win_in (head_ok (check_ok hc).h).1
  have cD := hid (fun W => WkDay_any (r.st / 86400) W (by omega))
  rw [show (r.st / 86400 % 7 + 3) % 7 + 1 = wdI (r.st / 86400) from rfl] at cD
  obtain ⟨x, hx⟩ : ∃ x, wdI (r.st / 86400) = x := ⟨_, rfl⟩
  rw [hx] at cD ⊢
  have cO := hid (fun W => MOf1_any x W 3)
  obtain ⟨M, hM⟩ : ∃ M, ofM [x] = M := ⟨_, rfl⟩
  rw [hM] at cO ⊢
  obtain ⟨F, hF⟩ : ∃ F, fullCl = F := ⟨_, rfl⟩
  rw [hF] at cF hfd ⊢
  clear hr hm hst hB0 hb hc h7 hn hx hM hF
  by_cases h4 : r.fq = 4
  · rw [if_pos h4]
    have hb4 : (r.fq == 4) = true := by simpa using h4
    clear h4
    go_enter Try.func41, Try.ntmps41
    go_wp2_with fail
    refine cB.out.mono ?_
    rintro e w1 ⟨rfl, hB1⟩
    have HF1 := hid ((HF0.out.keep hB1).keep (below_new (o := .cells #[.int .i64 y, .int .i64 mo, .int .i64 d, .int .i64 h, .int .i64 m, .int .i64 s] 123) (Below.refl w1.heap.size w1) (Nat.le_refl _)))
    clear hB1
    go_wp2_with fail
    refine (cF.out _).mono ?_
    rintro e w2 ⟨rfl, hB2⟩
    have HF2 := hid (HF1.out.keep hB2)
    clear hB2
    obtain ⟨⟨k0, k1, k2, k3, k4⟩, k5, k6, k7, k8, k9, kx⟩ := HF2.out.rb.all
    obtain ⟨⟨z0, z1, z2, z3, z4, z5, z6, z7, z8, z9⟩, f0, f1, f2, f3, f4, f5, f6, f7, f8, f9⟩ := HF2.out.z
    go_wp2_with fail
    refine (cD.out _).mono ?_
    rintro e w3 ⟨rfl, rfl⟩
    go_wp2_with fail
    refine (cO.out _).mono ?_
    rintro e w4 ⟨rfl, hB4⟩
    have HF4 := hid (HF2.out.keep hB4)
    clear hB4 k0 k1 k2 k3 k4 k5 k6 k7 k8 k9 kx z0 z1 z2 z3 z4 z5 z6 z7 z8 z9 f0 f1 f2 f3 f4 f5 f6 f7 f8 f9
    obtain ⟨⟨z0, z1, z2, z3, z4, z5, z6, z7, z8, z9⟩, f0, f1, f2, f3, f4, f5, f6, f7, f8, f9⟩ := HF4.out.z
    go_wp2
    exact bodyPost_ret (results_cell_midR rfl _ _ (w.heap.size + 1) 0 _ _ rfl (tenX_put HF4.out.z.there _ _ _ _ _ _ _ _ _ _) Try.underlying25 rfl infoOrd) rfl ⟨rfl, tenX_below HF4.out.be (by omega) _ _ _ _ _ _ _ _ _ _⟩
  · rw [if_neg h4]
    have hb4 : (r.fq == 4) = false := by simpa using h4
    clear h4
    go_enter Try.func41, Try.ntmps41
    go_wp2_with fail
    refine cB.out.mono ?_
    rintro e w1 ⟨rfl, hB1⟩
    have HF1 := hid ((HF0.out.keep hB1).keep (below_new (o := .cells #[.int .i64 y, .int .i64 mo, .int .i64 d, .int .i64 h, .int .i64 m, .int .i64 s] 123) (Below.refl w1.heap.size w1) (Nat.le_refl _)))
    clear hB1
    go_wp2_with fail
    refine (cF.out _).mono ?_
    rintro e w2 ⟨rfl, hB2⟩
    have HF2 := hid (HF1.out.keep hB2)
    clear hB2
    obtain ⟨⟨k0, k1, k2, k3, k4⟩, k5, k6, k7, k8, k9, kx⟩ := HF2.out.rb.all
    obtain ⟨⟨z0, z1, z2, z3, z4, z5, z6, z7, z8, z9⟩, f0, f1, f2, f3, f4, f5, f6, f7, f8, f9⟩ := HF2.out.z
    go_wp2
    exact bodyPost_ret (results_cell_midR rfl _ _ (w.heap.size + 1) 0 _ _ rfl (tenX_put HF2.out.z.there _ _ _ _ _ _ _ _ _ _) Try.underlying25 rfl infoOrd) rfl ⟨rfl, tenX_below HF2.out.be (by omega) _ _ _ _ _ _ _ _ _ _⟩
end Go.Proofs.Ytndfckpcbiecnaa

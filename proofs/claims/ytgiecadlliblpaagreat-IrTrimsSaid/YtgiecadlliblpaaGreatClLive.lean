/-
  clause.Days.
  clause.Day.
  feriaref13.Full is clause.Full.
  ferialaw13.lives: the chapter's example.
-/
import Derived.Test.YtgiecadlliblpaaGreatClMayFn
import Derived.Deep.RegionHeld3
import Derived.Test.YtgiecadlliblpaaGreatClDate
namespace Go.Proofs.YtgiecadlliblpaaGreat
open Go.RowKit
set_option linter.unusedVariables false

/-- the load of a clause, kept whole in a walk -/
def loadClS (v : Value) : Sem Value := Instr.loadAt 40 v
theorem loadAt_cl (v : Value) : Instr.loadAt 40 v = loadClS v := rfl
def LdC (W : World) (b : Nat) (c : Cl) : Prop := (loadClS (.pointer (some ⟨b, 0, none⟩))).run Tryz.prog W = .ok (clv c) W
theorem ClB.ld {W : World} {b : Nat} {c : Cl} (h : ClB W b c) : (loadClS (.pointer (some ⟨b, 0, none⟩))).run Tryz.prog W = .ok (clv c) W :=
  run_loadAt_mid W b 0 40 (clList c) _ h Tryz.underlying40 rfl infoCl
attribute [local go_sem ↓] loadAt_cl
theorem run_storeFn (w : World) (a : Addr) (m : Mode) (fn : Fn) (first captured : Array Value) : (store a (.func fn first captured) m).run Tryz.prog w = stored Tryz.prog w a (.func fn first captured) m := run_store Tryz.prog w a _ m rfl
attribute [local go_sem] run_storeFn
theorem ord_in {oin : Int} {oback : Bool} {od : Nat → Nat} (h : ordB oin oback od = true) : oin = 0 ∨ oin = 1 ∨ oin = 2 := by
  unfold ordB at h
  split at h
  · omega
  · split at h
    · omega
    · split at h
      · omega
      · cases h
theorem may_ord {c : Cl} (h : mayC c = true) : (c.oin = 0 ∨ c.oin = 1 ∨ c.oin = 2) ∧ 1 ≤ c.step ∧ unB c.unit = true ∧ winB c.anchor = true := by
  simp only [mayC, Bool.and_eq_true, decide_eq_true_eq] at h
  exact ⟨ord_in h.2.1, h.2.2.2.2.1, h.2.2.2.1, h.2.2.2.2.2⟩
theorem UDV.below {W W' : World} {lo lo' : Nat} {u s a : Int} {fv : Value} (h : UDV W lo u s a fv) (hb : Below W.heap.size W W') (hl : lo' ≤ lo) : UDV W' lo' u s a fv := by
  rcases h with h | h | ⟨h1, h2, h3, b3, b7, b4, h4, h5, h6, h7, h8⟩
  · exact .inl h
  · exact .inr (.inl h)
  · exact .inr (.inr ⟨h1, h2, h3, b3, b7, b4, h4, h5.below hb, Nat.le_trans hl h6, Nat.le_trans hl h7, Nat.le_trans hl h8⟩)
/-- what clause.Days hands back -/
def CDV (W : World) (lo : Nat) (c : Cl) (fv : Value) : Prop :=
  (mayC c = false ∧ fv = .func (.func 91) #[] #[]) ∨
  (mayC c = true ∧ ∃ b1 b2 v, fv = .func (.func 93) #[] #[.pointer (some ⟨b1, 0, none⟩), .pointer (some ⟨b2, 0, none⟩)] ∧ ClB W b1 c ∧ b1 < W.heap.size ∧ W.cell? ⟨b2, 0, none⟩ = some v ∧ b2 < W.heap.size ∧ lo ≤ b1 ∧ lo ≤ b2 ∧ UDV W lo c.unit c.step c.anchor v)
theorem CD1_any (n : Int) (w : World) : Calls Tryz.prog 91 #[shN n] w fun e w' => e = .returned (.bool false) ∧ Below w.heap.size w w' := by
  obtain ⟨a0, a1, a2, a3, a4, a5, a6, a7, a8, a9, hs⟩ := shN_ten n
  rw [hs]; clear hs
  go_enter Tryz.func91, Tryz.ntmps91
  go_wp2
  go_ret
  exact ⟨rfl, below_new (Below.refl _ _) (Nat.le_refl _)⟩
set_option maxRecDepth 100000 in
set_option maxHeartbeats 3200000 in
theorem CDays_any (c : Cl) (w : World) (hc : c.Ok) : Calls Tryz.prog 67 #[clv c] w fun e w' => ∃ fv, e = .returned fv ∧ CDV w' w.heap.size c fv ∧ Below w.heap.size w w' := by
  obtain ⟨W0, hW0⟩ : ∃ W0, w.alloc (.cells (clList c).toArray 40) = W0 := ⟨_, rfl⟩
  have hC : Hid (ClB W0 w.heap.size c) := by rw [← hW0]; exact clB_new w c _
  have hB0 : Hid (Below w.heap.size w W0) := by rw [← hW0]; exact below_new (Below.refl _ _) (Nat.le_refl _)
  have hs0 : w.heap.size < W0.heap.size := by rw [← hW0]; simp
  have HW0 := hid hW0
  have Hs0 := hid hs0
  have cM := hid (CMayCl_any c W0 hc)
  have cU := hid (fun W => UDays_any c.unit c.step c.anchor W hc.step)
  clear hW0 hs0 hc
  obtain ⟨b, hb⟩ : ∃ b, mayC c = b := ⟨_, rfl⟩
  have Hb := hid hb
  rw [hb] at cM
  clear hb
  have hl := (clB_new w c 40).ld
  go_enter Tryz.func67, Tryz.ntmps67
  go_wp2_with fail
  rw [HW0.out]
  refine cM.out.mono ?_
  rintro e w1 ⟨rfl, hB1⟩
  have HB1 : Hid (Below w.heap.size w w1) := hB0.out.trans (hB1.mono (by have := Hs0.out; omega))
  have HC1 := hid (hC.out.below hB1 Hs0.out)
  have Hs1 : Hid (w.heap.size < w1.heap.size) := Nat.lt_of_lt_of_le Hs0.out hB1.size
  clear hB1 hl cM
  cases b
  · go_wp2
    go_ret
    exact ⟨_, rfl, .inl ⟨Hb.out, rfl⟩, HB1.out⟩
  obtain ⟨t0, t1, t2, t3, t4⟩ := HC1.out.tail
  go_wp2_with fail
  refine (cU.out _).mono ?_
  rintro e w2 ⟨fv, rfl, hu, hB2⟩
  have HB2 : Hid (Below w.heap.size w w2) := HB1.out.trans (hB2.mono (by have := Hs1.out; omega))
  have HC2 := hid (HC1.out.below hB2 Hs1.out)
  have Hs2 : Hid (w.heap.size < w2.heap.size) := Nat.lt_of_lt_of_le Hs1.out hB2.size
  have Hs12 : Hid (w1.heap.size ≤ w2.heap.size) := hB2.size
  have Hu := hid hu
  have hcase : fv = .func (.func 103) #[] #[] ∨ fv = .func (.func 104) #[] #[] ∨ ∃ b3 b7 b4 : Nat, fv = .func (.func 105) #[] #[.pointer (some ⟨b3, 0, none⟩), .pointer (some ⟨b7, 0, none⟩), .pointer (some ⟨b4, 0, none⟩)] := by
    rcases hu with ⟨_, h⟩ | ⟨_, _, _, h⟩ | ⟨_, _, _, b3, b7, b4, h, _⟩
    · exact .inl h
    · exact .inr (.inl h)
    · exact .inr (.inr ⟨b3, b7, b4, h⟩)
  clear hB2 t0 t1 t2 t3 t4 hu
  rcases hcase with rfl | rfl | ⟨b3, b7, b4, rfl⟩
  all_goals
    go_wp2
    go_ret
    exact ⟨_, rfl, .inr ⟨Hb.out, w.heap.size, w2.heap.size, _, rfl, HC2.out.below (below_new (Below.refl w2.heap.size w2) (Nat.le_refl _)) Hs2.out, by simp; have := Hs2.out; omega, by simp [go_sem], by simp, Nat.le_refl _, Nat.le_of_lt Hs2.out, Hu.out.below (below_new (Below.refl w2.heap.size w2) (Nat.le_refl _)) (Nat.le_of_lt Hs1.out)⟩, below_new HB2.out HB2.out.size⟩
end Go.Proofs.YtgiecadlliblpaaGreat
namespace Go.Proofs.YtgiecadlliblpaaGreat
open Go.RowKit
set_option linter.unusedVariables false

/-- has a day a clause? -/
def dayC (c : Cl) (n : Int) : Bool := mayC c && (dateB c (shF n) && dayOn c.unit c.step c.anchor n)
attribute [local go_sem ↓] loadAt_cl
abbrev DyS (w : World) (c : Cl) (s : Nat → Int) (W : World) : Prop :=
  (loadClS (.pointer (some ⟨w.heap.size, 0, none⟩))).run Tryz.prog W = .ok (clv c) W ∧ DaS w c s W
theorem DyS.keep {w W W' : World} {c : Cl} {s : Nat → Int} (h : DyS w c s W) (hb : Below W.heap.size W W') : DyS w c s W' :=
  ⟨(h.2.keep hb).1.ld, h.2.keep hb⟩
theorem DaS.dys {w W : World} {c : Cl} {s : Nat → Int} (h : DaS w c s W) : DyS w c s W := ⟨h.1.ld, h⟩
theorem CDV.call {W : World} {lo : Nat} {c : Cl} {fv : Value} {n : Int} (h : CDV W lo c fv) (hc : c.Ok) (h0 : 0 ≤ n) (h1 : n < 146097) :
    ∃ g cap, fv = .func (.func g) #[] cap ∧ (g = 91 ∧ cap = #[] ∨ ∃ b1 b2 : Nat, g = 93 ∧ cap = #[.pointer (some ⟨b1, 0, none⟩), .pointer (some ⟨b2, 0, none⟩)]) ∧
      ∀ W', Below W.heap.size W W' → Calls Tryz.prog g (#[shN n] ++ cap) W' fun e w' => e = .returned (.bool (dayC c n)) ∧ Below W'.heap.size W' w' := by
  rcases h with ⟨hm, rfl⟩ | ⟨hm, b1, b2, v, rfl, hcl, l1, hv, l2, _, _, hu⟩
  · refine ⟨_, _, rfl, .inl ⟨rfl, rfl⟩, fun W' _ => ?_⟩
    rw [dayC, hm, Bool.false_and]
    exact CD1_any n W'
  · refine ⟨_, _, rfl, .inr ⟨b1, b2, rfl, rfl⟩, fun W' hb => ?_⟩
    rw [dayC, hm, Bool.true_and]
    exact CD2_any c n b1 b2 lo v W' hc (may_ord hm).1 h0 h1 (hcl.below hb l1) (Nat.lt_of_lt_of_le l1 hb.size) ((hb.cell (p := ⟨b2, 0, none⟩) l2).trans hv) (Nat.lt_of_lt_of_le l2 hb.size) (hu.below hb (Nat.le_refl _))
set_option maxRecDepth 100000 in
set_option maxHeartbeats 3200000 in
theorem CDay_any (c : Cl) (n : Int) (w : World) (hc : c.Ok) (h0 : 0 ≤ n) (h1 : n < 146097) :
    Calls Tryz.prog 43 #[clv c, shN n] w fun e w' => e = .returned (.bool (dayC c n)) ∧ Below w.heap.size w w' := by
  have cD : Hid (∀ W, DyS w c (shF n) W → Calls Tryz.prog 67 #[clv c] W fun e w' => (∃ fv, e = .returned fv ∧ ∃ g cap, fv = .func (.func g) #[] cap ∧ (g = 91 ∧ cap = #[] ∨ ∃ b1 b2 : Nat, g = 93 ∧ cap = #[.pointer (some ⟨b1, 0, none⟩), .pointer (some ⟨b2, 0, none⟩)]) ∧
      ∀ W', Below w'.heap.size w' W' → Calls Tryz.prog g (#[shq (shF n)] ++ cap) W' fun e w'' => e = .returned (.bool (dayC c n)) ∧ Below W'.heap.size W' w'') ∧ DyS w c (shF n) w') := fun W hS =>
    (CDays_any c W hc).mono fun e w' ⟨fv, he, hv, hb⟩ => ⟨⟨fv, he, hv.call hc h0 h1⟩, hS.keep hb⟩
  have HS0 : Hid (DyS w c (shF n) ((w.alloc (.cells (clList c).toArray 40)).alloc (.cells (shList (shF n)).toArray 53)).drew) := by
    have h := (daS_new w c (shF n) 40 53).dys
    exact h.keep (Below.refl _ _).drew
  obtain ⟨x, hx⟩ : ∃ x, dayC c n = x := ⟨_, rfl⟩
  rw [hx] at cD ⊢
  clear hx h0 h1 hc
  rw [← shq_shF]
  obtain ⟨s, hs⟩ : ∃ s, shF n = s := ⟨_, rfl⟩
  rw [hs] at cD HS0 ⊢
  clear hs
  rw [shq] at cD ⊢
  go_enter Tryz.func43, Tryz.ntmps43
  go_wp2_with fail
  refine wp_region_held_drew (S := fun w' => DyS w c s w') (by kernel_rfl) ?_ (fun hHeld => ?_)
  · exact HS0.out
  refine wpAnyH_take (i := 0) (v := ?_) rfl (by kernel_rfl) (by kernel_rfl) (by kernel_rfl) (fun _ _ _ h => h) (Or.inl ⟨by rfl, ?_⟩) (by assumption) ?_
  rotate_left
  · intro w hSw; (try dsimp only [RMS] at hSw); go_simp; (try with_reducible rfl)
  (try simp only [Act.put, List.getElem_toArray, List.getElem_cons_zero, List.setIfInBounds_toArray, List.set_cons_zero, List.set_cons_succ])
  refine wpAnyH_take (i := 2) (v := ?_) rfl (by kernel_rfl) (by kernel_rfl) (by kernel_rfl) (fun _ _ _ h => h) (Or.inl ⟨by rfl, ?_⟩) (by assumption) ?_
  rotate_left
  · intro w hSw; (try dsimp only [RMS] at hSw); go_simp; (try with_reducible rfl)
  (try simp only [Act.put, List.getElem_toArray, List.getElem_cons_succ, List.getElem_cons_zero, List.setIfInBounds_toArray, List.set_cons_zero, List.set_cons_succ])
  refine wpAnyH_ready (rs := [1]) (by kernel_rfl) (by simp) ?_
  refine AllReadyH.cons rfl (fun K hK => ?_) AllReadyH.nil
  go_simp
  refine (cD.out _ (by assumption)).mono ?_
  rintro e w1 ⟨⟨fv, rfl, g, cap, rfl, hg, hcall⟩, hS⟩
  have HC := hid hcall
  clear hcall
  (try go_wp2_with fail)
  refine hK.out _ _ (by assumption) (fun hHeld => ?_)
  clear hK K
  rcases hg with ⟨rfl, rfl⟩ | ⟨b1, b2, rfl, rfl⟩
  all_goals
    refine wpAnyH_ready (rs := [3]) (by kernel_rfl) (by simp) ?_
    refine AllReadyH.cons rfl (fun K hK => ?_) AllReadyH.nil
    go_simp
    refine (HC.out _ (Below.refl _ _)).mono ?_
    rintro e w2 ⟨rfl, hB2⟩
    have hS2 := DyS.keep (by assumption) hB2
    clear hB2
    (try go_wp2_with fail)
    refine hK.out _ _ (by assumption) (fun hHeld => ?_)
    clear hK K
    refine wpAnyH_take (i := 4) (v := ?_) rfl (by kernel_rfl) (by kernel_rfl) (by kernel_rfl) (fun _ _ _ h => h) (Or.inl ⟨by rfl, ?_⟩) (by assumption) ?_
    rotate_left
    · intro w hSw; go_simp; (try with_reducible rfl)
    (try simp only [Act.put, List.getElem_toArray, List.getElem_cons_succ, List.getElem_cons_zero, List.setIfInBounds_toArray, List.set_cons_zero, List.set_cons_succ])
    refine wpAnyH_done (by kernel_rfl) ?_ _
    go_wp2
    go_ret
    exact ⟨rfl, hS2.2.2.2.1⟩
end Go.Proofs.YtgiecadlliblpaaGreat
namespace Go.Proofs.YtgiecadlliblpaaGreat
open Go.RowKit
set_option linter.unusedVariables false

def fillW (k : Nat) : List Value := match k with
  | 0 => [.int .u64 0, .int .u64 0, .int .u64 0, .int .u64 0, .int .u64 0, .int .u64 0, .int .u64 0]
  | 1 => [.int .u64 18446744073709551615, .int .u64 0, .int .u64 0, .int .u64 0, .int .u64 0, .int .u64 0, .int .u64 0]
  | 2 => [.int .u64 18446744073709551615, .int .u64 18446744073709551615, .int .u64 0, .int .u64 0, .int .u64 0, .int .u64 0, .int .u64 0]
  | 3 => [.int .u64 18446744073709551615, .int .u64 18446744073709551615, .int .u64 18446744073709551615, .int .u64 0, .int .u64 0, .int .u64 0, .int .u64 0]
  | 4 => [.int .u64 18446744073709551615, .int .u64 18446744073709551615, .int .u64 18446744073709551615, .int .u64 18446744073709551615, .int .u64 0, .int .u64 0, .int .u64 0]
  | 5 => [.int .u64 18446744073709551615, .int .u64 18446744073709551615, .int .u64 18446744073709551615, .int .u64 18446744073709551615, .int .u64 18446744073709551615, .int .u64 0, .int .u64 0]
  | _ => [.int .u64 18446744073709551615, .int .u64 18446744073709551615, .int .u64 18446744073709551615, .int .u64 18446744073709551615, .int .u64 18446744073709551615, .int .u64 18446744073709551615, .int .u64 0]
def intOfF : Value → Int | .int _ n => n | _ => 0
/-- feriaref13.Full's cells -/
abbrev rfullL : List Value := [.int .u64 1152921504606846975, .int .u64 1152921504606846975, .int .u64 16777215, .int .u64 8190, .int .u64 4294967294, .int .u64 4294967294, .int .u64 254, .bool false, .int .i64 0, .bool false, .int .u64 0, .int .u64 0, .int .u64 0, .int .u64 0, .int .u64 0, .int .u64 0, .int .u64 0, .int .u64 0,
  .int .u64 18446744073709551615, .int .u64 18446744073709551615, .int .u64 18446744073709551615, .int .u64 18446744073709551615, .int .u64 18446744073709551615, .int .u64 18446744073709551615, .int .u64 65535, .int .i64 0, .int .i64 1, .int .i64 0, .int .i64 0, .int .i64 12622780799]
theorem rfull_eq : clList fullCl = rfullL := by kernel_rfl
attribute [local go_sem ↓] storeAt_cl
attribute [local go_sem] run_storeClS
end Go.Proofs.YtgiecadlliblpaaGreat
namespace Go.Proofs.YtgiecadlliblpaaGreat
open Go.RowKit
set_option linter.unusedVariables false

/-- a clause of another week -/
def weekCl (F : Cl) : Cl := { F with m := fun i => if i = 6 then 2 else F.m i }
theorem spanM_lt (f t s : Int) : spanM f t s < 18446744073709551616 := mk_lt _
theorem full_ok : fullCl.Ok := by
  refine ⟨fun i _ => ?_, fun i _ => by show 0 < _; decide, fun i _ => spanM_lt _ _ _, ⟨by decide, by decide⟩, ⟨by decide, by decide⟩, ⟨by decide, by decide⟩, ⟨by decide, by decide⟩, ⟨by decide, by decide⟩, ⟨by decide, by decide⟩⟩
  show fullM i < _
  unfold fullM
  repeat (first | exact spanM_lt _ _ _ | split)
theorem Cl.Ok.week {F : Cl} (h : F.Ok) : (weekCl F).Ok :=
  ⟨fun i hi => by show (if i = 6 then 2 else F.m i) < _; split; decide; exact h.m i hi, h.od, h.ys, h.oin, h.unit, h.step, h.anchor, h.fr, h.un⟩
theorem live4 : dayC (weekCl fullCl) 4 = true := by kernel_rfl
theorem live0 : dayC (weekCl fullCl) 0 = false := by kernel_rfl
theorem clSame_self (c : Cl) : clSame c c = true := by rw [clSame_true]; simp
theorem ClB.week {W : World} {b : Nat} {F : Cl} (h : ClB W b F) : ClB (W.setCell ⟨b, 6, none⟩ (.int .u64 2)) b (weekCl F) := by
  have e : clList (weekCl F) = (clList F).set 6 (.int .u64 2) := rfl
  have h6 := h.at 6 rfl
  intro j v hv
  by_cases hj : j = 6
  · subst hj
    have hv' : (Value.int .u64 2) = v := by rw [e] at hv; simpa using hv
    rw [← hv']
    exact World.cell?_setCell_same _ _ _ (by rw [h6])
  · rw [e, List.getElem?_set_ne (by omega)] at hv
    rw [World.cell?_setCell_other _ _ _ _ (by intro e; injection e with _ e2 _; exact hj (by omega))]
    exact h j v hv
abbrev LvS (w : World) (b : Nat) (c : Cl) (W : World) : Prop :=
  (loadClS (.pointer (some ⟨b, 0, none⟩))).run Tryz.prog W = .ok (clv c) W ∧ ClB W b c ∧ Below w.heap.size w W ∧ b < W.heap.size ∧ w.heap.size ≤ b
theorem LvS.keep {w W W' : World} {b : Nat} {c : Cl} (h : LvS w b c W) (hb : Below W.heap.size W W') : LvS w b c W' := by
  obtain ⟨_, h2, h3, h4, h5⟩ := h
  exact ⟨(h2.below hb h4).ld, h2.below hb h4, h3.trans (hb.mono (by omega)), Nat.lt_of_lt_of_le h4 hb.size, h5⟩
attribute [local go_sem ↓] storeAt_cl loadAt_cl
attribute [local go_sem] run_storeClS
end Go.Proofs.YtgiecadlliblpaaGreat

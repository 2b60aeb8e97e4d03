/-
  Clauses and Ords as values; when two are the same.
-/
import Derived.Test.YtndfckpcbiecnaaUnitDays
import Derived.Test.YtndfckpcbiecnaaMaskTz
import Derived.Test.YtndfckpcbiecnaaWideSet2
import Derived.DeepKeys
namespace Go.Proofs.Ytndfckpcbiecnaa
open Go.RowKit
set_option linter.unusedVariables false

/-- a clause -/
structure Cl where
  m : Nat → Nat
  or : Bool
  oin : Int
  oback : Bool
  od : Nat → Nat
  ys : Nat → Nat
  unit : Int
  step : Int
  anchor : Int
  fr : Int
  un : Int
def i64B (x : Int) : Prop := -9223372036854775808 ≤ x ∧ x ≤ 9223372036854775807
structure Cl.Ok (c : Cl) : Prop where
  m : ∀ i, i < 7 → c.m i < 18446744073709551616
  od : ∀ i, i < 8 → c.od i < 18446744073709551616
  ys : ∀ i, i < 7 → c.ys i < 18446744073709551616
  oin : i64B c.oin
  unit : i64B c.unit
  step : i64B c.step
  anchor : i64B c.anchor
  fr : i64B c.fr
  un : i64B c.un
abbrev clList (c : Cl) : List Value := [.int .u64 (c.m 0 : Nat), .int .u64 (c.m 1 : Nat), .int .u64 (c.m 2 : Nat), .int .u64 (c.m 3 : Nat), .int .u64 (c.m 4 : Nat), .int .u64 (c.m 5 : Nat), .int .u64 (c.m 6 : Nat), .bool c.or, .int .i64 c.oin, .bool c.oback,
  .int .u64 (c.od 0 : Nat), .int .u64 (c.od 1 : Nat), .int .u64 (c.od 2 : Nat), .int .u64 (c.od 3 : Nat), .int .u64 (c.od 4 : Nat), .int .u64 (c.od 5 : Nat), .int .u64 (c.od 6 : Nat), .int .u64 (c.od 7 : Nat),
  .int .u64 (c.ys 0 : Nat), .int .u64 (c.ys 1 : Nat), .int .u64 (c.ys 2 : Nat), .int .u64 (c.ys 3 : Nat), .int .u64 (c.ys 4 : Nat), .int .u64 (c.ys 5 : Nat), .int .u64 (c.ys 6 : Nat), .int .i64 c.unit, .int .i64 c.step, .int .i64 c.anchor, .int .i64 c.fr, .int .i64 c.un]
abbrev clv (c : Cl) : Value := .agg (clList c).toArray
abbrev ordList (oin : Int) (oback : Bool) (od : Nat → Nat) : List Value := [.int .i64 oin, .bool oback, .int .u64 (od 0 : Nat), .int .u64 (od 1 : Nat), .int .u64 (od 2 : Nat), .int .u64 (od 3 : Nat), .int .u64 (od 4 : Nat), .int .u64 (od 5 : Nat), .int .u64 (od 6 : Nat), .int .u64 (od 7 : Nat)]
abbrev ordv (oin : Int) (oback : Bool) (od : Nat → Nat) : Value := .agg (ordList oin oback od).toArray

theorem u64_wf {n : Nat} (h : n < 18446744073709551616) : (Lit.int .u64 (n : Int)).wf = true := by
  simp [Lit.wf, show IntKind.u64.min = 0 from rfl, show IntKind.u64.max = 18446744073709551615 from rfl]; omega
theorem i64_wf {n : Int} (h : i64B n) : (Lit.int .i64 n).wf = true := by
  obtain ⟨h0, h1⟩ := h
  simp [Lit.wf, show IntKind.i64.min = -9223372036854775808 from rfl, show IntKind.i64.max = 9223372036854775807 from rfl]; omega
abbrev ordLits (oin : Int) (oback : Bool) (od : Nat → Nat) : List Lit := [.int .i64 oin, .bool oback, .int .u64 (od 0 : Nat), .int .u64 (od 1 : Nat), .int .u64 (od 2 : Nat), .int .u64 (od 3 : Nat), .int .u64 (od 4 : Nat), .int .u64 (od 5 : Nat), .int .u64 (od 6 : Nat), .int .u64 (od 7 : Nat)]
theorem cellsOrd : Try.prog.cellsOf 25 = 10 := by kernel_rfl
theorem cells8 : Try.prog.cellsOf 23 = 8 := by kernel_rfl
theorem cells7 : Try.prog.cellsOf 26 = 7 := by kernel_rfl
theorem cellsU : Try.prog.cellsOf 22 = 1 := by kernel_rfl
theorem cellsI : Try.prog.cellsOf 3 = 1 := by kernel_rfl
theorem cellsI64 : Try.prog.cellsOf 2 = 1 := by kernel_rfl
theorem cellsBl : Try.prog.cellsOf 4 = 1 := by kernel_rfl
theorem cellsCl : Try.prog.cellsOf 28 = 30 := by kernel_rfl
theorem lits_u (d : Nat) {n : Nat} (h : n < 18446744073709551616) : Try.prog.keyLits (d + 1) 22 [.int .u64 (n : Int)] = some [.int .u64 n] := by
  simp only [Program.keyLits, Try.underlying22, u64_wf h, and_self, if_true]
theorem lits_i (d : Nat) {n : Int} (h : i64B n) : Try.prog.keyLits (d + 1) 3 [.int .i64 n] = some [.int .i64 n] := by
  simp only [Program.keyLits, Try.underlying3, i64_wf h, and_self, if_true]
theorem lits_l (d : Nat) {n : Int} (h : i64B n) : Try.prog.keyLits (d + 1) 2 [.int .i64 n] = some [.int .i64 n] := by
  simp only [Program.keyLits, Try.underlying2, i64_wf h, and_self, if_true]
theorem lits_b (d : Nat) (b : Bool) : Try.prog.keyLits (d + 1) 4 [.bool b] = some [.bool b] := by
  simp only [Program.keyLits, Try.underlying4]
theorem range8 : List.range 8 = [0, 1, 2, 3, 4, 5, 6, 7] := rfl
theorem range7 : List.range 7 = [0, 1, 2, 3, 4, 5, 6] := rfl
theorem lits_8 (d : Nat) (od : Nat → Nat) (h : ∀ i, i < 8 → od i < 18446744073709551616) :
    Try.prog.keyLits (d + 2) 23 [.int .u64 (od 0 : Nat), .int .u64 (od 1 : Nat), .int .u64 (od 2 : Nat), .int .u64 (od 3 : Nat), .int .u64 (od 4 : Nat), .int .u64 (od 5 : Nat), .int .u64 (od 6 : Nat), .int .u64 (od 7 : Nat)] =
      some [.int .u64 (od 0 : Nat), .int .u64 (od 1 : Nat), .int .u64 (od 2 : Nat), .int .u64 (od 3 : Nat), .int .u64 (od 4 : Nat), .int .u64 (od 5 : Nat), .int .u64 (od 6 : Nat), .int .u64 (od 7 : Nat)] := by
  unfold Program.keyLits
  simp only [Try.underlying23]
  simp [cells8, cellsU, range8, lits_u, h]
theorem lits_7 (d : Nat) (od : Nat → Nat) (h : ∀ i, i < 7 → od i < 18446744073709551616) :
    Try.prog.keyLits (d + 2) 26 [.int .u64 (od 0 : Nat), .int .u64 (od 1 : Nat), .int .u64 (od 2 : Nat), .int .u64 (od 3 : Nat), .int .u64 (od 4 : Nat), .int .u64 (od 5 : Nat), .int .u64 (od 6 : Nat)] =
      some [.int .u64 (od 0 : Nat), .int .u64 (od 1 : Nat), .int .u64 (od 2 : Nat), .int .u64 (od 3 : Nat), .int .u64 (od 4 : Nat), .int .u64 (od 5 : Nat), .int .u64 (od 6 : Nat)] := by
  unfold Program.keyLits
  simp only [Try.underlying26]
  simp [cells7, cellsU, range7, lits_u, h]
theorem lits_ord (d : Nat) (oin : Int) (oback : Bool) (od : Nat → Nat) (h0 : i64B oin) (h : ∀ i, i < 8 → od i < 18446744073709551616) : Try.prog.keyLits (d + 3) 25 (ordList oin oback od) = some (ordLits oin oback od) := by
  unfold Program.keyLits
  simp only [Try.underlying25]
  simp [cellsOrd, cells8, cellsI, cellsBl, lits_i, lits_b, h0]
  rw [lits_8 d od h]; rfl

abbrev clLits (c : Cl) : List Lit := [.int .u64 (c.m 0 : Nat), .int .u64 (c.m 1 : Nat), .int .u64 (c.m 2 : Nat), .int .u64 (c.m 3 : Nat), .int .u64 (c.m 4 : Nat), .int .u64 (c.m 5 : Nat), .int .u64 (c.m 6 : Nat), .bool c.or, .int .i64 c.oin, .bool c.oback,
  .int .u64 (c.od 0 : Nat), .int .u64 (c.od 1 : Nat), .int .u64 (c.od 2 : Nat), .int .u64 (c.od 3 : Nat), .int .u64 (c.od 4 : Nat), .int .u64 (c.od 5 : Nat), .int .u64 (c.od 6 : Nat), .int .u64 (c.od 7 : Nat),
  .int .u64 (c.ys 0 : Nat), .int .u64 (c.ys 1 : Nat), .int .u64 (c.ys 2 : Nat), .int .u64 (c.ys 3 : Nat), .int .u64 (c.ys 4 : Nat), .int .u64 (c.ys 5 : Nat), .int .u64 (c.ys 6 : Nat), .int .i64 c.unit, .int .i64 c.step, .int .i64 c.anchor, .int .i64 c.fr, .int .i64 c.un]
theorem lits_cl (d : Nat) (c : Cl) (h : c.Ok) : Try.prog.keyLits (d + 4) 28 (clList c) = some (clLits c) := by
  unfold Program.keyLits
  simp only [Try.underlying28]
  simp [cellsCl, cellsOrd, cells7, cellsI, cellsI64, cellsU, cellsBl, lits_i, lits_l, lits_u, lits_b, h.m, h.unit, h.step, h.anchor, h.fr, h.un]
  rw [lits_ord d c.oin c.oback c.od h.oin h.od, lits_7 (d + 1) c.ys h.ys]; rfl
theorem keyOrd : Try.prog.keyTypeAt 4 25 = true := by kernel_rfl
theorem keyCl : Try.prog.keyTypeAt 5 28 = true := by kernel_rfl
theorem formOrd (oin : Int) (oback : Bool) (od : Nat → Nat) : (ordv oin oback od).formed Try.prog 25 = true := by
  unfold Value.formed; simp only [Try.underlying25, cellsOrd]; rfl
theorem formCl (c : Cl) : (clv c).formed Try.prog 28 = true := by
  unfold Value.formed; simp only [Try.underlying28, cellsCl]; rfl
def allR (n : Nat) (p : Nat → Bool) : Bool := (List.range n).all p
theorem allR_iff {n : Nat} {p : Nat → Bool} : allR n p = true ↔ ∀ i, i < n → p i = true := by
  rw [allR, List.all_eq_true]; simp
/-- the same Ord -/
def ordSame (oin : Int) (oback : Bool) (od : Nat → Nat) (oin' : Int) (oback' : Bool) (od' : Nat → Nat) : Bool := decide (oin = oin') && (decide (oback = oback') && allR 8 (fun i => od i == od' i))
theorem eight {i : Nat} (h : i < 8) : i = 0 ∨ i = 1 ∨ i = 2 ∨ i = 3 ∨ i = 4 ∨ i = 5 ∨ i = 6 ∨ i = 7 := by omega
theorem all8 {p : Nat → Prop} : (∀ i, i < 8 → p i) ↔ p 0 ∧ p 1 ∧ p 2 ∧ p 3 ∧ p 4 ∧ p 5 ∧ p 6 ∧ p 7 :=
  ⟨fun h => ⟨h 0 (by omega), h 1 (by omega), h 2 (by omega), h 3 (by omega), h 4 (by omega), h 5 (by omega), h 6 (by omega), h 7 (by omega)⟩, fun ⟨h0, h1, h2, h3, h4, h5, h6, h7⟩ i hi => by
    rcases eight hi with rfl | rfl | rfl | rfl | rfl | rfl | rfl | rfl <;> assumption⟩
theorem all7 {p : Nat → Prop} : (∀ i, i < 7 → p i) ↔ p 0 ∧ p 1 ∧ p 2 ∧ p 3 ∧ p 4 ∧ p 5 ∧ p 6 :=
  ⟨fun h => ⟨h 0 (by omega), h 1 (by omega), h 2 (by omega), h 3 (by omega), h 4 (by omega), h 5 (by omega), h 6 (by omega)⟩, fun ⟨h0, h1, h2, h3, h4, h5, h6⟩ i hi => by
    rcases seven hi with rfl | rfl | rfl | rfl | rfl | rfl | rfl <;> assumption⟩
theorem lit_int {q : IntKind} {a b : Int} : (Lit.int q a = Lit.int q b) ↔ a = b := ⟨fun h => by injection h, fun h => by rw [h]⟩
theorem lit_bool {a b : Bool} : (Lit.bool a = Lit.bool b) ↔ a = b := ⟨fun h => by injection h, fun h => by rw [h]⟩
theorem ordSame_iff (oin : Int) (oback : Bool) (od : Nat → Nat) (oin' : Int) (oback' : Bool) (od' : Nat → Nat) : ordLits oin oback od = ordLits oin' oback' od' ↔ (oin = oin' ∧ oback = oback' ∧ ∀ i, i < 8 → od i = od' i) := by
  rw [all8]
  simp only [List.cons.injEq, lit_int, lit_bool, Int.natCast_inj, and_true]
def clSame (c c' : Cl) : Bool := allR 7 (fun i => c.m i == c'.m i) && (decide (c.or = c'.or) && (ordSame c.oin c.oback c.od c'.oin c'.oback c'.od && (allR 7 (fun i => c.ys i == c'.ys i) &&
  (decide (c.unit = c'.unit) && (decide (c.step = c'.step) && (decide (c.anchor = c'.anchor) && (decide (c.fr = c'.fr) && decide (c.un = c'.un))))))))
theorem ordSame_true (oin : Int) (oback : Bool) (od : Nat → Nat) (oin' : Int) (oback' : Bool) (od' : Nat → Nat) : ordSame oin oback od oin' oback' od' = true ↔ (oin = oin' ∧ oback = oback' ∧ ∀ i, i < 8 → od i = od' i) := by
  simp only [ordSame, Bool.and_eq_true, decide_eq_true_eq, allR_iff, beq_iff_eq]
theorem clSame_true (c c' : Cl) : clSame c c' = true ↔ ((∀ i, i < 7 → c.m i = c'.m i) ∧ c.or = c'.or ∧ (c.oin = c'.oin ∧ c.oback = c'.oback ∧ ∀ i, i < 8 → c.od i = c'.od i) ∧ (∀ i, i < 7 → c.ys i = c'.ys i) ∧ c.unit = c'.unit ∧ c.step = c'.step ∧ c.anchor = c'.anchor ∧ c.fr = c'.fr ∧ c.un = c'.un) := by
  simp only [clSame, Bool.and_eq_true, decide_eq_true_eq, allR_iff, beq_iff_eq, ordSame_true]
theorem clSame_iff (c c' : Cl) : clLits c = clLits c' ↔ ((∀ i, i < 7 → c.m i = c'.m i) ∧ c.or = c'.or ∧ (c.oin = c'.oin ∧ c.oback = c'.oback ∧ ∀ i, i < 8 → c.od i = c'.od i) ∧ (∀ i, i < 7 → c.ys i = c'.ys i) ∧ c.unit = c'.unit ∧ c.step = c'.step ∧ c.anchor = c'.anchor ∧ c.fr = c'.fr ∧ c.un = c'.un) := by
  rw [all8, all7, all7]
  simp only [List.cons.injEq, lit_int, lit_bool, Int.natCast_inj, and_true, and_assoc]
theorem eqIn_ord (oin : Int) (oback : Bool) (od : Nat → Nat) (oin' : Int) (oback' : Bool) (od' : Nat → Nat) (w : World) (h0 : i64B oin) (h : ∀ i, i < 8 → od i < 18446744073709551616) (h0' : i64B oin') (h' : ∀ i, i < 8 → od' i < 18446744073709551616) :
    (Op.equalIn 10000 25 (ordv oin oback od) (ordv oin' oback' od')).run Try.prog w = .ok (ordSame oin oback od oin' oback' od') w := by
  obtain ⟨r, hr, hi⟩ := run_equalIn_deep 9996 4 25 keyOrd w 4 4 _ _ _ _ (formOrd oin oback od) (formOrd oin' oback' od') (lits_ord 1 oin oback od h0 h) (lits_ord 1 oin' oback' od' h0' h')
  have e : r = ordSame oin oback od oin' oback' od' := by rw [Bool.eq_iff_iff, hi, ordSame_true, ordSame_iff]
  rw [← e]
  exact hr
theorem eqIn_cl (c c' : Cl) (w : World) (h : c.Ok) (h' : c'.Ok) : (Op.equalIn 10000 28 (clv c) (clv c')).run Try.prog w = .ok (clSame c c') w := by
  obtain ⟨r, hr, hi⟩ := run_equalIn_deep 9995 5 28 keyCl w 5 5 _ _ _ _ (formCl c) (formCl c') (lits_cl 1 c h) (lits_cl 1 c' h')
  have e : r = clSame c c' := by rw [Bool.eq_iff_iff, hi, clSame_true, clSame_iff]
  rw [← e]
  exact hr
theorem eql_ord (oin : Int) (oback : Bool) (od : Nat → Nat) (oin' : Int) (oback' : Bool) (od' : Nat → Nat) (w : World) (h0 : i64B oin) (h : ∀ i, i < 8 → od i < 18446744073709551616) (h0' : i64B oin') (h' : ∀ i, i < 8 → od' i < 18446744073709551616) :
    (binOp .eql 25 (ordv oin oback od) (ordv oin' oback' od')).run Try.prog w = .ok (.bool (ordSame oin oback od oin' oback' od')) w := by
  rw [run_eql_struct, eqIn_ord _ _ _ _ _ _ w h0 h h0' h']; rfl
theorem neq_ord (oin : Int) (oback : Bool) (od : Nat → Nat) (oin' : Int) (oback' : Bool) (od' : Nat → Nat) (w : World) (h0 : i64B oin) (h : ∀ i, i < 8 → od i < 18446744073709551616) (h0' : i64B oin') (h' : ∀ i, i < 8 → od' i < 18446744073709551616) :
    (binOp .neq 25 (ordv oin oback od) (ordv oin' oback' od')).run Try.prog w = .ok (.bool (!ordSame oin oback od oin' oback' od')) w := by
  rw [run_neq_struct, eqIn_ord _ _ _ _ _ _ w h0 h h0' h']; rfl
theorem eql_cl (c c' : Cl) (w : World) (h : c.Ok) (h' : c'.Ok) : (binOp .eql 28 (clv c) (clv c')).run Try.prog w = .ok (.bool (clSame c c')) w := by
  rw [run_eql_struct, eqIn_cl _ _ w h h']; rfl
end Go.Proofs.Ytndfckpcbiecnaa

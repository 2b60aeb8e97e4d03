/-
  A clause with another From and Until; each instant of the window has Full.
-/
import Derived.Test.YtgiecadlliblpaaGreatClRDay
namespace Go.Proofs.YtgiecadlliblpaaGreat
open Go.RowKit
set_option linter.unusedVariables false

def withSpan (c : Cl) (f u : Int) : Cl := { c with fr := f, un := u }
theorem Cl.Ok.span {c : Cl} (h : c.Ok) {f u : Int} (hf : i64B f) (hu : i64B u) : (withSpan c f u).Ok := ⟨h.m, h.od, h.ys, h.oin, h.unit, h.step, h.anchor, hf, hu⟩
theorem may_span (c : Cl) (f u : Int) : mayC (withSpan c f u) = mayC c := rfl
theorem has_span' (c : Cl) (f u t : Int) : hasC (withSpan c f u) t = (winB t && (mayC c && (betB f u t && (todIn (t % 86400) (c.m 2) (c.m 1) (c.m 0) && (onB c.unit c.step c.anchor t && dayC c (t / 86400)))))) := rfl
theorem has_cut (c : Cl) (a b t : Int) : hasC (withSpan c (max c.fr a) (min c.un b)) t = (hasC c t && (decide (a ≤ t) && decide (t ≤ b))) := by
  rw [has_span', hasC]
  have e : betB (max c.fr a) (min c.un b) t = (betB c.fr c.un t && (decide (a ≤ t) && decide (t ≤ b))) := by
    rw [betB, betB, Bool.eq_iff_iff]
    simp only [Bool.and_eq_true, decide_eq_true_eq]
    omega
  rw [e]
  generalize winB t = x1
  generalize mayC c = x2
  generalize betB c.fr c.un t = x3
  generalize (decide (a ≤ t) && decide (t ≤ b)) = x4
  generalize todIn (t % 86400) (c.m 2) (c.m 1) (c.m 0) = x5
  generalize onB c.unit c.step c.anchor t = x6
  generalize dayC c (t / 86400) = x7
  cases x1 <;> cases x2 <;> cases x3 <;> cases x4 <;> simp
theorem hasB_span {lo hi n : Int} (h0 : 0 ≤ n) (h1 : n < 64) (h2 : lo ≤ n) (h3 : n ≤ hi) : hasB (spanM lo hi 1) n = true := by
  rw [hasB, decide_eq_true h0, Bool.true_and, span_test (by omega)]
  simp only [decide_eq_true_eq]
  omega
theorem hasW_full {n : Int} (h0 : 0 ≤ n) (h1 : n < 400) : hasW fullW n = true := by
  rw [hasW, mayB, decide_eq_true h0, decide_eq_true h1, bitW, fullW, span_test (Nat.mod_lt _ (by decide))]
  simp only [Bool.true_and, decide_eq_true_eq]
  omega
theorem may_full : mayC fullCl = true := by kernel_rfl
theorem date_full {n : Int} (h0 : 0 ≤ n) (h1 : n < 146097) : dateB fullCl (shF n) = true := by
  obtain ⟨y0, y1, m0, m1, d0, d1⟩ := fDate_year h0 h1
  have hl := (lenI_bd (fY n) (fMo n)).2
  have e1 : hasB (fullCl.m 4) (shF n 3) = true := hasB_span (lo := 1) (hi := 31) (show 0 ≤ fD n by omega) (show fD n < 64 by omega) d0 (show fD n ≤ 31 by omega)
  have e2 : hasB (fullCl.m 6) (shF n 5) = true := by
    have := shF_wk n
    exact hasB_span (lo := 1) (hi := 7) (by omega) (by omega) this.1 this.2
  have e3 : hasB (fullCl.m 3) (shF n 2) = true := hasB_span (lo := 1) (hi := 12) (show 0 ≤ fMo n by omega) (show fMo n < 64 by omega) m0 m1
  have e4 : hasB (fullCl.m 5) (shF n 4) = true := hasB_span (lo := 1) (hi := 31) (show 0 ≤ lenI (fY n) (fMo n) - fD n + 1 by omega) (show lenI (fY n) (fMo n) - fD n + 1 < 64 by omega) (show 1 ≤ lenI (fY n) (fMo n) - fD n + 1 by omega) (show lenI (fY n) (fMo n) - fD n + 1 ≤ 31 by omega)
  have e5 : hasW fullCl.ys (shF n 1 - 1970) = true := hasW_full (show 0 ≤ fY n - 1970 by omega) (show fY n - 1970 < 400 by omega)
  have e6 : nthB fullCl.oin fullCl.oback fullCl.od (shF n) = true := rfl
  have e7 : fullCl.or = false := rfl
  rw [dateB, domB, e7, e1, e2, e3, e4, e5, e6]; rfl
theorem full_has {t : Int} (h : winB t = true) : hasC fullCl t = true := by
  have hw : 0 ≤ t ∧ t < 12622780800 := by simpa only [winB, decide_eq_true_eq] using h
  have e1 : betB fullCl.fr fullCl.un t = true := by
    show betB 0 12622780799 t = true
    simp only [betB, Bool.and_eq_true, decide_eq_true_eq]; omega
  have e2 : todIn (t % 86400) (fullCl.m 2) (fullCl.m 1) (fullCl.m 0) = true := by
    have hd : dayB (t % 86400) = true := by simp only [dayB, decide_eq_true_eq]; omega
    have a1 : hasB (fullCl.m 2) (t % 86400 / 3600) = true := hasB_span (lo := 0) (hi := 23) (by omega) (by omega) (by omega) (by omega)
    have a2 : hasB (fullCl.m 1) (t % 86400 / 60 % 60) = true := hasB_span (lo := 0) (hi := 59) (by omega) (by omega) (by omega) (by omega)
    have a3 : hasB (fullCl.m 0) (t % 86400 % 60) = true := hasB_span (lo := 0) (hi := 59) (by omega) (by omega) (by omega) (by omega)
    rw [todIn, hd, a1, a2, a3]; rfl
  have e3 : onB fullCl.unit fullCl.step fullCl.anchor t = true := by
    show onB 0 1 0 t = true
    obtain ⟨k1, -⟩ := which_yes (u := 0) (t := 0) rfl rfl
    obtain ⟨k2, -⟩ := which_yes (u := 0) (t := t) rfl h
    rw [onB, k1, k2, stepB_one]; rfl
  have e4 : dayC fullCl (t / 86400) = true := by
    have hd : dayOn fullCl.unit fullCl.step fullCl.anchor (t / 86400) = true := dayOn_size (u := 0) (s := 1) (a := 0) rfl rfl (by omega) (by decide)
    rw [dayC, may_full, date_full (by omega) (by omega), hd]; rfl
  rw [hasC, h, may_full, e1, e2, e3, e4]; rfl
theorem has_full {c : Cl} {t : Int} (h : hasC c t = true) : hasC fullCl t = true := by
  refine full_has ?_
  simp only [hasC, Bool.and_eq_true] at h
  exact h.1
theorem ClB.span {W : World} {b : Nat} {c : Cl} (h : ClB W b c) (f u : Int) : ClB ((W.setCell ⟨b, 28, none⟩ (.int .i64 f)).setCell ⟨b, 29, none⟩ (.int .i64 u)) b (withSpan c f u) := by
  have e : clList (withSpan c f u) = ((clList c).set 28 (.int .i64 f)).set 29 (.int .i64 u) := rfl
  have h8 := h.at 28 rfl
  have h9 := h.at 29 rfl
  have hne : (⟨b, 29, none⟩ : Addr) ≠ ⟨b, 28, none⟩ := by intro e; injection e with _ e _; cases e
  intro j v hv
  by_cases hj : j = 29
  · subst hj
    have hv' : (Value.int .i64 u) = v := by rw [e] at hv; simpa using hv
    rw [← hv']
    exact World.cell?_setCell_same _ _ _ (by rw [World.cell?_setCell_other _ _ _ _ hne.symm]; exact h9)
  · by_cases hk : j = 28
    · subst hk
      have hv' : (Value.int .i64 f) = v := by rw [e] at hv; simpa using hv
      rw [← hv', World.cell?_setCell_other _ _ _ _ hne]
      exact World.cell?_setCell_same _ _ _ h8
    · rw [e, List.getElem?_set_ne (by omega), List.getElem?_set_ne (by omega)] at hv
      rw [World.cell?_setCell_other _ _ _ _ (by intro e; injection e with _ e2 _; exact hj (by omega)), World.cell?_setCell_other _ _ _ _ (by intro e; injection e with _ e2 _; exact hk (by omega))]
      exact h j v hv
end Go.Proofs.YtgiecadlliblpaaGreat

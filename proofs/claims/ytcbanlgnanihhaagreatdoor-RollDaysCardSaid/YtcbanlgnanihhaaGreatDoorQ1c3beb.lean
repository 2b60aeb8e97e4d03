/-
  feriaref13.Day; what the document says of a clause and an instant.
  A clause with another From and Until; each instant of the window has Full.
  The days from one to another one; the day after a day.
  The days of clauses: which of them are active on a day, the list of days, the first and the last one.
  The chapter's example has 97 days.
  The law of a clause's state on a day: what is cut of the day, in ferialaw16's words and in lap's.
  The seconds of a clause's state on a day are those of the day's instants that have the clause.
-/
import Derived.Test.YtcbanlgnanihhaaGreatDoorQd180c5
import Derived.Test.YtcbanlgnanihhaaGreatDoorQc9b0ed
import Derived.Test.YtcbanlgnanihhaaGreatDoorQ2bf93d
namespace Go.Proofs.YtcbanlgnanihhaaGreatDoor
open Go.RowKit
set_option linter.unusedVariables false

attribute [local go_sem ↓] loadAt_cl
/-- has a day a clause, by the document -/
def rdayC (c : Cl) (n : Int) : Bool := mayC c && (dateB c (shF n) && (decide (0 < sizeU c.unit) || onB c.unit c.step c.anchor (86400 * n)))
theorem which_yes {u t : Int} (hu : unB u = true) (ht : winB t = true) : whichB u t = true ∧ whichI u t = whU u t := by
  have h : whichB u t = true := by rw [whichB, hu, ht]; rfl
  exact ⟨h, by rw [whichI, if_pos h]⟩
theorem unit_range {u : Int} (h : unB u = true) : 0 ≤ u ∧ u ≤ 6 := by simpa only [unB, decide_eq_true_eq] using h
theorem win_of {t : Int} (h0 : 0 ≤ t) (h1 : t < 12622780800) : winB t = true := by simp only [winB, decide_eq_true_eq]; exact ⟨h0, h1⟩
theorem stepB_one (d : Int) : stepB 1 d = true := by rw [stepB]; simp
theorem dayOn_on {u s a t : Int} (hu : unB u = true) (ha : winB a = true) (hs : 1 ≤ s) (h0 : 0 ≤ t) (h1 : t < 12622780800) (hz : sizeU u = 0) : dayOn u s a (t / 86400) = onB u s a t := by
  obtain ⟨e1, e2⟩ := which_yes hu ha
  obtain ⟨e3, e4⟩ := which_yes hu (win_of h0 h1)
  have hu3 : 3 ≤ u := sizeU_day hz (unit_range hu).1
  rw [dayOn, onB, e1, e3, e4, whU_day hu3, decide_eq_true hs, Bool.true_and, Bool.true_and, Bool.true_and, Bool.true_and]
  by_cases h : s = 1
  · subst h
    rw [stepB_one, Bool.or_true]
  · rw [decide_eq_false (by omega), Bool.false_or]
theorem dayOn_size {u s a n : Int} (hu : unB u = true) (ha : winB a = true) (hs : 1 ≤ s) (hz : 0 < sizeU u) : dayOn u s a n = true := by
  obtain ⟨e1, e2⟩ := which_yes hu ha
  rw [dayOn, e1, decide_eq_true hs, decide_eq_true (.inl hz)]; rfl
theorem day_eq (c : Cl) (n : Int) (h0 : 0 ≤ n) (h1 : n < 146097) : dayC c n = rdayC c n := by
  cases hm : mayC c
  · rw [dayC, rdayC, hm]; rfl
  · obtain ⟨-, hs, hu, ha⟩ := may_ord hm
    rw [dayC, rdayC]
    rcases sizeU_cases c.unit with hz | hz
    · rw [dayOn_size hu ha hs hz, decide_eq_true hz, Bool.true_or]
    · have e := dayOn_on (t := 86400 * n) hu ha hs (by omega) (by omega) hz
      rw [show 86400 * n / 86400 = n by omega] at e
      rw [e, decide_eq_false (by omega), Bool.false_or]
theorem on_day {u s a t : Int} (hu : unB u = true) (ha : winB a = true) (hs : 1 ≤ s) (h0 : 0 ≤ t) (h1 : t < 12622780800) (h : onB u s a t = true) : dayOn u s a (t / 86400) = true := by
  rcases sizeU_cases u with hz | hz
  · exact dayOn_size hu ha hs hz
  · rw [dayOn_on hu ha hs h0 h1 hz]; exact h
/-- has an instant a clause, by the document -/
def hasR (c : Cl) (t : Int) : Bool := winB t && (mayC c && (!decide (t < c.fr) && (!decide (c.un < t) && (dateB c (shF (t / 86400)) && (onB c.unit c.step c.anchor t && (hasB (c.m 2) (t % 86400 / 3600) && (hasB (c.m 1) (t % 86400 % 3600 / 60) && hasB (c.m 0) (t % 86400 % 60))))))))
theorem has_eq (c : Cl) (t : Int) : hasC c t = hasR c t := by
  rcases win_cases t with ⟨hw, h0, h1⟩ | ⟨hw, h⟩
  · cases hm : mayC c
    · rw [hasC, hasR, hm, Bool.false_and, Bool.false_and]
    · obtain ⟨-, hs, hu, ha⟩ := may_ord hm
      have e1 : todIn (t % 86400) (c.m 2) (c.m 1) (c.m 0) = (hasB (c.m 2) (t % 86400 / 3600) && (hasB (c.m 1) (t % 86400 % 3600 / 60) && hasB (c.m 0) (t % 86400 % 60))) := by
        have hd : dayB (t % 86400) = true := by simp only [dayB, decide_eq_true_eq]; omega
        rw [todIn, hd, show t % 86400 / 60 % 60 = t % 86400 % 3600 / 60 by omega, Bool.true_and]
      have e2 : betB c.fr c.un t = (!decide (t < c.fr) && !decide (c.un < t)) := by
        rw [betB, Bool.eq_iff_iff]
        simp only [Bool.and_eq_true, decide_eq_true_eq, Bool.not_eq_true', decide_eq_false_iff_not]
        omega
      have e3 : dayC c (t / 86400) = (dateB c (shF (t / 86400)) && dayOn c.unit c.step c.anchor (t / 86400)) := by rw [dayC, hm, Bool.true_and]
      rw [hasC, hasR, e1, e2, e3]
      cases ho : onB c.unit c.step c.anchor t
      · simp
      · rw [on_day hu ha hs h0 h1 ho]
        generalize (!decide (t < c.fr)) = x1
        generalize (!decide (c.un < t)) = x2
        generalize dateB c (shF (t / 86400)) = x3
        generalize hasB (c.m 2) (t % 86400 / 3600) = x4
        generalize hasB (c.m 1) (t % 86400 % 3600 / 60) = x5
        generalize hasB (c.m 0) (t % 86400 % 60) = x6
        cases x1 <;> cases x2 <;> cases x3 <;> simp
  · rw [hasC, hasR, hw, Bool.false_and, Bool.false_and]

set_option maxRecDepth 100000 in
set_option maxHeartbeats 3200000 in
theorem RDay13_any (c : Cl) (n : Int) (w : World) (hc : c.Ok) (h0 : 0 ≤ n) (h1 : n < 146097) : Calls Tryz.prog 100 #[clv c, shN n] w fun e w' => e = .returned (.bool (dayC c n)) ∧ Below w.heap.size w w' := by
  rw [day_eq c n h0 h1, rdayC]
  have HD0 : Hid (DaS w c (shF n) ((w.alloc (.cells (clList c).toArray 32)).alloc (.cells (shList (shF n)).toArray 63))) := daS_new w c (shF n) _ _
  have cM := hid (fun W => RMayCl_any c W hc)
  cases hm : mayC c
  · rw [hm] at cM
    rw [← shq_shF]
    obtain ⟨s, hs⟩ : ∃ s, shF n = s := ⟨_, rfl⟩
    rw [hs] at HD0 ⊢
    clear hs hm
    rw [shq]
    have l0 := HD0.out.1.ld
    go_enter Tryz.func100, Tryz.ntmps100
    go_wp2_with fail
    refine (cM.out _).mono ?_
    rintro e w1 ⟨rfl, hB⟩
    have HD1 := hid (HD0.out.keep hB)
    clear hB l0
    go_wp2
    go_ret
    exact ⟨rfl, HD1.out.2.2.1⟩
  · obtain ⟨ho, hst, hu, ha⟩ := may_ord hm
    rw [hm] at cM
    have cD := hid (fun W => RDate13_any c (shF n) W hc ho (shF_wk n) (shF_yr h0 h1))
    have cZ := hid (fun W => RSize_any c.unit W)
    have cO := hid (fun W => RUOn_any c.unit c.step c.anchor (86400 * n) W hc.step)
    have hz := sizeU_cases c.unit
    have hmul := hid (IntWalk.i64_in (86400 * n) (by omega))
    have hn : shF n 0 = n := rfl
    rw [← shq_shF]
    obtain ⟨z, hzz⟩ : ∃ z, sizeU c.unit = z := ⟨_, rfl⟩
    rw [hzz] at cZ hz ⊢
    obtain ⟨b2, hb2⟩ : ∃ b, dateB c (shF n) = b := ⟨_, rfl⟩
    obtain ⟨b3, hb3⟩ : ∃ b, onB c.unit c.step c.anchor (86400 * n) = b := ⟨_, rfl⟩
    rw [hb2] at cD ⊢
    rw [hb3] at cO ⊢
    rw [← hn] at cO hmul
    obtain ⟨s, hs⟩ : ∃ s, shF n = s := ⟨_, rfl⟩
    rw [hs] at HD0 cD cO hmul ⊢
    clear hs hm hn hb2 hb3 hzz hc ho hst hu ha h0 h1
    rw [shq] at cD ⊢
    have l0 := HD0.out.1.ld
    go_enter Tryz.func100, Tryz.ntmps100
    go_wp2_with fail
    refine (cM.out _).mono ?_
    rintro e w1 ⟨rfl, hB⟩
    have HD1 := hid (HD0.out.keep hB)
    clear hB l0
    have l1 := HD1.out.1.ld
    obtain ⟨q0, q1, q2, q3, q4, q5, q6, q7, q8, q9⟩ := HD1.out.2.1
    go_wp2_with fail
    refine (cD.out _).mono ?_
    rintro e w2 ⟨rfl, hB⟩
    have HD2 := hid (HD1.out.keep hB)
    clear hB l1 q0 q1 q2 q3 q4 q5 q6 q7 q8 q9
    cases b2
    · go_wp2
      go_ret
      exact ⟨rfl, HD2.out.2.2.1⟩
    obtain ⟨t0, t1, t2, -, -⟩ := HD2.out.1.tail
    obtain ⟨q0, -, -, -, -, -, -, -, -, -⟩ := HD2.out.2.1
    go_wp2_with fail
    refine (cZ.out _).mono ?_
    rintro e w' ⟨rfl, rfl⟩
    rcases hz with hz | hz
    · have hd : decide (0 < z) = true := decide_eq_true hz
      go_wp2
      go_ret
      exact ⟨ret_bool (by rw [hd, Bool.true_or]; rfl), HD2.out.2.2.1⟩
    · subst hz
      have hmu := hmul.out
      go_wp2_with fail
      refine (cO.out _).mono ?_
      rintro e w' ⟨rfl, rfl⟩
      go_wp2
      go_ret
      exact ⟨rfl, HD2.out.2.2.1⟩

end Go.Proofs.YtcbanlgnanihhaaGreatDoor
namespace Go.Proofs.YtcbanlgnanihhaaGreatDoor
open Go.RowKit
set_option linter.unusedVariables false

def withSpan (c : Cl) (f u : Int) : Cl := { c with fr := f, un := u }
theorem Cl.Ok.span {c : Cl} (h : c.Ok) {f u : Int} (hf : i64B f) (hu : i64B u) : (withSpan c f u).Ok := ⟨h.m, h.od, h.ys, h.oin, h.unit, h.step, h.anchor, hf, hu⟩
theorem may_span (c : Cl) (f u : Int) : mayC (withSpan c f u) = mayC c := rfl
theorem has_span' (c : Cl) (f u t : Int) : hasC (withSpan c f u) t = (winB t && (mayC c && (betB f u t && (todIn (t % 86400) (c.m 2) (c.m 1) (c.m 0) && (onB c.unit c.step c.anchor t && dayC c (t / 86400)))))) := rfl
theorem has_cut (c : Cl) (a b t : Int) : hasC (withSpan c (max c.fr a) (min c.un b)) t = (hasC c t && (decide (a ≤ t) && decide (t ≤ b))) := by
  rw [has_span', hasC]
  have e : betB (max c.fr a) (min c.un b) t = (betB c.fr c.un t && (decide (a ≤ t) && decide (t ≤ b))) := by
    rw [betB, betB, Bool.eq_iff_iff]
    simp only [Bool.and_eq_true, decide_eq_true_eq]
    omega
  rw [e]
  generalize winB t = x1
  generalize mayC c = x2
  generalize betB c.fr c.un t = x3
  generalize (decide (a ≤ t) && decide (t ≤ b)) = x4
  generalize todIn (t % 86400) (c.m 2) (c.m 1) (c.m 0) = x5
  generalize onB c.unit c.step c.anchor t = x6
  generalize dayC c (t / 86400) = x7
  cases x1 <;> cases x2 <;> cases x3 <;> cases x4 <;> simp
theorem hasB_span {lo hi n : Int} (h0 : 0 ≤ n) (h1 : n < 64) (h2 : lo ≤ n) (h3 : n ≤ hi) : hasB (spanM lo hi 1) n = true := by
  rw [hasB, decide_eq_true h0, Bool.true_and, span_test (by omega)]
  simp only [decide_eq_true_eq]
  omega
theorem hasW_full {n : Int} (h0 : 0 ≤ n) (h1 : n < 400) : hasW fullW n = true := by
  rw [hasW, mayB, decide_eq_true h0, decide_eq_true h1, bitW, fullW, span_test (Nat.mod_lt _ (by decide))]
  simp only [Bool.true_and, decide_eq_true_eq]
  omega
theorem may_full : mayC fullCl = true := by kernel_rfl
theorem date_full {n : Int} (h0 : 0 ≤ n) (h1 : n < 146097) : dateB fullCl (shF n) = true := by
  obtain ⟨y0, y1, m0, m1, d0, d1⟩ := fDate_year h0 h1
  have hl := (lenI_bd (fY n) (fMo n)).2
  have e1 : hasB (fullCl.m 4) (shF n 3) = true := hasB_span (lo := 1) (hi := 31) (show 0 ≤ fD n by omega) (show fD n < 64 by omega) d0 (show fD n ≤ 31 by omega)
  have e2 : hasB (fullCl.m 6) (shF n 5) = true := by
    have := shF_wk n
    exact hasB_span (lo := 1) (hi := 7) (by omega) (by omega) this.1 this.2
  have e3 : hasB (fullCl.m 3) (shF n 2) = true := hasB_span (lo := 1) (hi := 12) (show 0 ≤ fMo n by omega) (show fMo n < 64 by omega) m0 m1
  have e4 : hasB (fullCl.m 5) (shF n 4) = true := hasB_span (lo := 1) (hi := 31) (show 0 ≤ lenI (fY n) (fMo n) - fD n + 1 by omega) (show lenI (fY n) (fMo n) - fD n + 1 < 64 by omega) (show 1 ≤ lenI (fY n) (fMo n) - fD n + 1 by omega) (show lenI (fY n) (fMo n) - fD n + 1 ≤ 31 by omega)
  have e5 : hasW fullCl.ys (shF n 1 - 1970) = true := hasW_full (show 0 ≤ fY n - 1970 by omega) (show fY n - 1970 < 400 by omega)
  have e6 : nthB fullCl.oin fullCl.oback fullCl.od (shF n) = true := rfl
  have e7 : fullCl.or = false := rfl
  rw [dateB, domB, e7, e1, e2, e3, e4, e5, e6]; rfl
theorem full_has {t : Int} (h : winB t = true) : hasC fullCl t = true := by
  have hw : 0 ≤ t ∧ t < 12622780800 := by simpa only [winB, decide_eq_true_eq] using h
  have e1 : betB fullCl.fr fullCl.un t = true := by
    show betB 0 12622780799 t = true
    simp only [betB, Bool.and_eq_true, decide_eq_true_eq]; omega
  have e2 : todIn (t % 86400) (fullCl.m 2) (fullCl.m 1) (fullCl.m 0) = true := by
    have hd : dayB (t % 86400) = true := by simp only [dayB, decide_eq_true_eq]; omega
    have a1 : hasB (fullCl.m 2) (t % 86400 / 3600) = true := hasB_span (lo := 0) (hi := 23) (by omega) (by omega) (by omega) (by omega)
    have a2 : hasB (fullCl.m 1) (t % 86400 / 60 % 60) = true := hasB_span (lo := 0) (hi := 59) (by omega) (by omega) (by omega) (by omega)
    have a3 : hasB (fullCl.m 0) (t % 86400 % 60) = true := hasB_span (lo := 0) (hi := 59) (by omega) (by omega) (by omega) (by omega)
    rw [todIn, hd, a1, a2, a3]; rfl
  have e3 : onB fullCl.unit fullCl.step fullCl.anchor t = true := by
    show onB 0 1 0 t = true
    obtain ⟨k1, -⟩ := which_yes (u := 0) (t := 0) rfl rfl
    obtain ⟨k2, -⟩ := which_yes (u := 0) (t := t) rfl h
    rw [onB, k1, k2, stepB_one]; rfl
  have e4 : dayC fullCl (t / 86400) = true := by
    have hd : dayOn fullCl.unit fullCl.step fullCl.anchor (t / 86400) = true := dayOn_size (u := 0) (s := 1) (a := 0) rfl rfl (by omega) (by decide)
    rw [dayC, may_full, date_full (by omega) (by omega), hd]; rfl
  rw [hasC, h, may_full, e1, e2, e3, e4]; rfl
theorem has_full {c : Cl} {t : Int} (h : hasC c t = true) : hasC fullCl t = true := by
  refine full_has ?_
  simp only [hasC, Bool.and_eq_true] at h
  exact h.1
theorem ClB.span {W : World} {b : Nat} {c : Cl} (h : ClB W b c) (f u : Int) : ClB ((W.setCell ⟨b, 28, none⟩ (.int .i64 f)).setCell ⟨b, 29, none⟩ (.int .i64 u)) b (withSpan c f u) := by
  have e : clList (withSpan c f u) = ((clList c).set 28 (.int .i64 f)).set 29 (.int .i64 u) := rfl
  have h8 := h.at 28 rfl
  have h9 := h.at 29 rfl
  have hne : (⟨b, 29, none⟩ : Addr) ≠ ⟨b, 28, none⟩ := by intro e; injection e with _ e _; cases e
  intro j v hv
  by_cases hj : j = 29
  · subst hj
    have hv' : (Value.int .i64 u) = v := by rw [e] at hv; simpa using hv
    rw [← hv']
    exact World.cell?_setCell_same _ _ _ (by rw [World.cell?_setCell_other _ _ _ _ hne.symm]; exact h9)
  · by_cases hk : j = 28
    · subst hk
      have hv' : (Value.int .i64 f) = v := by rw [e] at hv; simpa using hv
      rw [← hv', World.cell?_setCell_other _ _ _ _ hne]
      exact World.cell?_setCell_same _ _ _ h8
    · rw [e, List.getElem?_set_ne (by omega), List.getElem?_set_ne (by omega)] at hv
      rw [World.cell?_setCell_other _ _ _ _ (by intro e; injection e with _ e2 _; exact hj (by omega)), World.cell?_setCell_other _ _ _ _ (by intro e; injection e with _ e2 _; exact hk (by omega))]
      exact h j v hv
end Go.Proofs.YtcbanlgnanihhaaGreatDoor
namespace Go.Proofs.YtcbanlgnanihhaaGreatDoor
open Go.RowKit
set_option linter.unusedVariables false

/-- the days from one to another one -/
def daysL (a b : Int) : List Int := (List.range (b - a + 1).toNat).map fun (i : Nat) => a + (i : Int)
theorem daysL_len (a b : Int) : (daysL a b).length = (b - a + 1).toNat := by simp [daysL]
theorem daysL_get {a b : Int} {k : Nat} (h : k < (daysL a b).length) : (daysL a b)[k] = a + k := by simp [daysL]
theorem daysL_mem {a b n : Int} : n ∈ daysL a b ↔ a ≤ n ∧ n ≤ b := by
  simp only [daysL, List.mem_map, List.mem_range]
  constructor
  · rintro ⟨i, h, rfl⟩; omega
  · rintro ⟨h1, h2⟩; exact ⟨(n - a).toNat, by omega, by omega⟩
theorem daysL_nil {a b : Int} (h : b < a) : daysL a b = [] := by
  rw [daysL, show (b - a + 1).toNat = 0 by omega]; rfl
theorem daysL_split {a b c : Int} (h1 : a ≤ c) (h2 : c ≤ b + 1) : daysL a b = daysL a (c - 1) ++ daysL c b := by
  apply List.ext_getElem
  · rw [List.length_append, daysL_len, daysL_len, daysL_len]; omega
  · intro i h3 h4
    rw [daysL_get h3, List.getElem_append]
    split
    · rename_i h5; rw [daysL_get h5]
    · rename_i h5
      rw [daysL_get, daysL_len] at *
      omega
theorem daysL_out {p : Int → Bool} {a b : Int} (h : ∀ n, a ≤ n → n ≤ b → p n = false) : (daysL a b).filter p = [] := by
  rw [List.filter_eq_nil_iff]
  intro n hn
  obtain ⟨h1, h2⟩ := daysL_mem.1 hn
  rw [h n h1 h2]; simp
theorem daysL_clip {p : Int → Bool} {a b lo hi : Int} (h : ∀ n, p n = true → lo ≤ n ∧ n ≤ hi) : (daysL (max a lo) (min b hi)).filter p = (daysL a b).filter p := by
  have hno : ∀ n, ¬ (lo ≤ n ∧ n ≤ hi) → p n = false := fun n hn => by
    rw [← Bool.not_eq_true]; intro e; exact hn (h n e)
  by_cases hab : max a lo ≤ min b hi
  · rw [daysL_split (a := a) (b := b) (c := max a lo) (by omega) (by omega), daysL_split (a := max a lo) (b := b) (c := min b hi + 1) (by omega) (by omega), List.filter_append, List.filter_append,
      daysL_out (a := a) (fun n h1 h2 => hno n (by omega)), daysL_out (b := b) (fun n h1 h2 => hno n (by omega)), List.nil_append, List.append_nil, show min b hi + 1 - 1 = min b hi by omega]
  · rw [daysL_nil (by omega), daysL_out (fun n h1 h2 => hno n (by omega))]; rfl
theorem filter_idx {α : Type} (p : α → Bool) : ∀ (l : List α) (k : Nat) (hk : k < l.length), p l[k] = true → (l.filter p)[(l.take k).countP p]? = some l[k]
  | [], k, hk, _ => by simp at hk
  | a :: l, 0, hk, h => by
    have h' : p a = true := h
    simp [h']
  | a :: l, k + 1, hk, h => by
    have ih := filter_idx p l k (by simpa using hk) (by simpa using h)
    rw [List.take_succ_cons, List.countP_cons, List.filter_cons]
    by_cases ha : p a = true
    · rw [if_pos ha, if_pos ha, List.getElem?_cons_succ]; simpa using ih
    · rw [if_neg ha, if_neg ha, Nat.add_zero]; simpa using ih
theorem count_snoc {α : Type} (p : α → Bool) (l : List α) (k : Nat) (hk : k < l.length) : (l.take (k + 1)).countP p = (l.take k).countP p + if p l[k] then 1 else 0 := by
  rw [take_snoc l k hk, List.countP_append, List.countP_singleton]
theorem filter_len {α : Type} (p : α → Bool) (l : List α) : (l.filter p).length = l.countP p := by rw [List.countP_eq_length_filter]
theorem count_lt {α : Type} (p : α → Bool) (l : List α) (k : Nat) (hk : k < l.length) (h : p l[k] = true) : (l.take k).countP p < (l.filter p).length := by
  have := filter_idx p l k hk h
  exact (List.getElem?_eq_some_iff.1 this).1

/-! ### the day after a day -/
theorem next_is {n y z : Int} {m k : Nat} {d e : Int} (hd : IsDate n y m d) (gd : IsDate (n + 1) z k e) (h1 : n + 1 < 146097) :
    (d + 1 ≤ lenI y m → z = y ∧ k = m ∧ e = d + 1) ∧
    (¬ d + 1 ≤ lenI y m → m + 1 ≤ 12 → z = y ∧ k = m + 1 ∧ e = 1) ∧
    (¬ d + 1 ≤ lenI y m → ¬ m + 1 ≤ 12 → z = y + 1 ∧ k = 1 ∧ e = 1) := by
  have hd0 := hd.d0
  have hd1 := hd.d1
  have hsum := hd.sum
  have hm0 := hd.m0
  have hm1 := hd.m1
  refine ⟨fun h => ?_, fun h h2 => ?_, fun h h2 => ?_⟩
  · exact gd.unique ⟨hd.y0, hd.y1, hd.m0, hd.m1, by omega, h, by omega⟩
  · have hm := msI_next y m hm0 (by omega)
    have hl := lenI_bd y ((m + 1 : Nat) : Int)
    exact gd.unique (z := y) (k := m + 1) (e := 1) ⟨hd.y0, hd.y1, by omega, by omega, by omega, by omega, by omega⟩
  · obtain rfl : m = 12 := by omega
    have hl := msI_last y
    have hs := ysI_next y
    have hle : lenI y ((12 : Nat) : Int) = lenI y 12 := rfl
    have hy1 : y + 1 ≤ 2369 := by
      have e1 : y ≤ 2369 := hd.y1
      by_cases e2 : y = 2369
      · subst e2
        rw [show ysI 2369 = 145732 by decide, show msI 2369 12 = 334 by decide] at hsum
        rw [hle, show lenI 2369 12 = 31 by decide] at hd1 h
        omega
      · omega
    have hlen := lenI_bd (y + 1) 1
    have hone : msI (y + 1) 1 = 0 := rfl
    exact gd.unique (z := y + 1) (k := 1) (e := 1) ⟨by have := hd.y0; omega, hy1, by omega, by omega, by omega, by show (1 : Int) ≤ lenI (y + 1) 1; omega, by rw [hone]; omega⟩
theorem next_date {n : Int} (h0 : 0 ≤ n) (h1 : n + 1 < 146097) :
    (fD n + 1 ≤ lenI (fY n) (fMo n) → fY (n + 1) = fY n ∧ fMo (n + 1) = fMo n ∧ fD (n + 1) = fD n + 1 ∧ fOr (n + 1) = fOr n + 1) ∧
    (¬ fD n + 1 ≤ lenI (fY n) (fMo n) → fMo n + 1 ≤ 12 → fY (n + 1) = fY n ∧ fMo (n + 1) = fMo n + 1 ∧ fD (n + 1) = 1 ∧ fOr (n + 1) = fOr n + 1) ∧
    (¬ fD n + 1 ≤ lenI (fY n) (fMo n) → ¬ fMo n + 1 ≤ 12 → fY (n + 1) = fY n + 1 ∧ fMo (n + 1) = 1 ∧ fD (n + 1) = 1 ∧ fOr (n + 1) = 1) := by
  obtain ⟨m, e, hd, _⟩ := fDate n h0 (by omega)
  obtain ⟨k, f, gd, _⟩ := fDate (n + 1) (by omega) h1
  obtain ⟨a1, a2, a3⟩ := next_is hd gd h1
  have gor := ord_eq gd
  have o1 : fOr n = n - ysI (fY n) + 1 := rfl
  have o2 : fOr (n + 1) = n + 1 - ysI (fY (n + 1)) + 1 := rfl
  rw [o1, o2, f, e]
  refine ⟨fun h => ?_, fun h h2 => ?_, fun h h2 => ?_⟩
  · obtain ⟨b1, b2, b3⟩ := a1 h
    refine ⟨b1, by rw [b2], b3, ?_⟩
    rw [b1]; omega
  · obtain ⟨b1, b2, b3⟩ := a2 h (by omega)
    refine ⟨b1, by rw [b2]; omega, b3, ?_⟩
    rw [b1]; omega
  · obtain ⟨b1, b2, b3⟩ := a3 h (by omega)
    refine ⟨b1, by rw [b2]; rfl, b3, ?_⟩
    rw [b2, b3, show msI (fY (n + 1)) 1 = 0 from rfl] at gor
    omega
end Go.Proofs.YtcbanlgnanihhaaGreatDoor
namespace Go.Proofs.YtcbanlgnanihhaaGreatDoor
open Go.RowKit
set_option linter.unusedVariables false

def okD (c : Cl) : Bool := heldB c.fr c.un && mayC c
def frD (c : Cl) : Int := heldF c.fr c.un / 86400
def unD (c : Cl) : Int := heldU c.fr c.un / 86400
/-- is a clause, of those that have days, active on a day? -/
def onD (c : Cl) (n : Int) : Bool := decide (frD c ≤ n) && (decide (n ≤ unD c) && dayC c n)
def liveD (c : Cl) (n : Int) : Bool := okD c && onD c n
def atC (cs : List Cl) (i : Nat) : Cl := cs.getD i fullCl
theorem atC_get {cs : List Cl} {i : Nat} (h : i < cs.length) : atC cs i = cs[i] := by simp [atC, h]
/-- the places of the clauses that have days -/
def liveI (cs : List Cl) : Nat → List Nat
  | 0 => []
  | k + 1 => liveI cs k ++ (if okD (atC cs k) then [k] else [])
theorem liveI_mem {cs : List Cl} {i : Nat} : ∀ {k : Nat}, i ∈ liveI cs k ↔ i < k ∧ okD (atC cs i) = true
  | 0 => by simp [liveI]
  | k + 1 => by
    rw [liveI, List.mem_append, liveI_mem]
    by_cases h : okD (atC cs k) = true
    · rw [if_pos h, List.mem_singleton]
      constructor
      · rintro (⟨h1, h2⟩ | rfl)
        · exact ⟨by omega, h2⟩
        · exact ⟨by omega, h⟩
      · rintro ⟨h1, h2⟩
        by_cases e : i = k
        · exact .inr e
        · exact .inl ⟨by omega, h2⟩
    · rw [if_neg h]
      constructor
      · rintro (⟨h1, h2⟩ | h1)
        · exact ⟨by omega, h2⟩
        · cases h1
      · rintro ⟨h1, h2⟩
        by_cases e : i = k
        · subst e; exact absurd h2 h
        · exact .inl ⟨by omega, h2⟩
theorem liveI_len (cs : List Cl) : ∀ k, (liveI cs k).length ≤ k
  | 0 => by simp [liveI]
  | k + 1 => by have := liveI_len cs k; rw [liveI, List.length_append]; split <;> simp <;> omega
/-- the mask of the clauses that are active on a day -/
def actM (cs : List Cl) (n : Int) : Nat := mk fun i => decide (i < cs.length) && liveD (atC cs i) n
theorem mk_or {p : Nat → Bool} {k : Nat} (h : k < 64) : mk p ||| 2 ^ k = mk fun i => p i || decide (i = k) := by
  refine eq_mk (or_lt (mk_lt _) (pow_lt h)) (fun i hi => ?_)
  rw [Nat.testBit_or, mk_test, Nat.testBit_two_pow]
  have : decide (k = i) = decide (i = k) := decide_eq_decide.2 ⟨Eq.symm, Eq.symm⟩
  simp [hi, this]
theorem actM_lt (cs : List Cl) (n : Int) : actM cs n < 18446744073709551616 := mk_lt _
theorem actM_I (cs : List Cl) (n : Int) : mk (fun i => decide (i ∈ liveI cs (min cs.length 64)) && onD (atC cs i) n) = actM cs n := by
  refine mk_congr fun i hi => ?_
  rw [liveD, ← Bool.and_assoc]
  congr 1
  rw [Bool.eq_iff_iff]
  simp only [Bool.and_eq_true, decide_eq_true_eq, liveI_mem]
  constructor
  · rintro ⟨h1, h2⟩; exact ⟨by omega, h2⟩
  · rintro ⟨h1, h2⟩; exact ⟨by omega, h2⟩
theorem actM_zero {cs : List Cl} {n : Int} : actM cs n = 0 ↔ ∀ i, i < cs.length → i < 64 → liveD (atC cs i) n = false := by
  constructor
  · intro h i h1 h2
    have := mk_test (fun i => decide (i < cs.length) && liveD (atC cs i) n) i
    rw [← actM, h, Nat.zero_testBit, decide_eq_true h2, decide_eq_true h1, Bool.true_and, Bool.true_and] at this
    exact this.symm
  · intro h
    rw [actM, ← mk_false]
    refine mk_congr fun i hi => ?_
    by_cases h1 : i < cs.length
    · rw [h i h1 hi, Bool.and_false]
    · rw [decide_eq_false h1, Bool.false_and]
theorem held_days (c : Cl) : 0 ≤ frD c ∧ frD c ≤ 146096 ∧ -1 ≤ unD c ∧ unD c ≤ 146096 := by
  unfold frD unD
  rcases held_cases c.fr c.un with ⟨e1, e2, h⟩ | ⟨e1, e2, h⟩ <;> rw [e1, e2] <;> omega
/-- the first and the last day of some -/
def loB (cs : List Cl) (I : List Nat) : Int := I.foldl (fun a i => min a (frD (atC cs i))) 146097
def hiB (cs : List Cl) (I : List Nat) : Int := I.foldl (fun a i => max a (unD (atC cs i))) (-1)
theorem loB_snoc (cs : List Cl) (I : List Nat) (i : Nat) : loB cs (I ++ [i]) = min (loB cs I) (frD (atC cs i)) := by rw [loB, List.foldl_append]; rfl
theorem hiB_snoc (cs : List Cl) (I : List Nat) (i : Nat) : hiB cs (I ++ [i]) = max (hiB cs I) (unD (atC cs i)) := by rw [hiB, List.foldl_append]; rfl
theorem loB_fold (cs : List Cl) : ∀ (I : List Nat) (a : Int), 0 ≤ a → a ≤ 146097 → 0 ≤ I.foldl (fun a i => min a (frD (atC cs i))) a ∧ I.foldl (fun a i => min a (frD (atC cs i))) a ≤ a ∧ ∀ i ∈ I, I.foldl (fun a i => min a (frD (atC cs i))) a ≤ frD (atC cs i)
  | [], a, h0, h1 => ⟨h0, Int.le_refl _, by simp⟩
  | i :: I, a, h0, h1 => by
    have hd := held_days (atC cs i)
    obtain ⟨g0, g1, g2⟩ := loB_fold cs I (min a (frD (atC cs i))) (by omega) (by omega)
    rw [List.foldl_cons]
    refine ⟨g0, by omega, fun j hj => ?_⟩
    rcases List.mem_cons.1 hj with rfl | hj
    · omega
    · exact g2 j hj
theorem hiB_fold (cs : List Cl) : ∀ (I : List Nat) (a : Int), -1 ≤ a → a ≤ 146096 → I.foldl (fun a i => max a (unD (atC cs i))) a ≤ 146096 ∧ a ≤ I.foldl (fun a i => max a (unD (atC cs i))) a ∧ ∀ i ∈ I, unD (atC cs i) ≤ I.foldl (fun a i => max a (unD (atC cs i))) a
  | [], a, h0, h1 => ⟨h1, Int.le_refl _, by simp⟩
  | i :: I, a, h0, h1 => by
    have hd := held_days (atC cs i)
    obtain ⟨g0, g1, g2⟩ := hiB_fold cs I (max a (unD (atC cs i))) (by omega) (by omega)
    rw [List.foldl_cons]
    refine ⟨g0, by omega, fun j hj => ?_⟩
    rcases List.mem_cons.1 hj with rfl | hj
    · omega
    · exact g2 j hj
abbrev loC (cs : List Cl) : Int := loB cs (liveI cs (min cs.length 64))
abbrev hiC (cs : List Cl) : Int := hiB cs (liveI cs (min cs.length 64))
theorem loB_bd (cs : List Cl) (I : List Nat) : 0 ≤ loB cs I ∧ loB cs I ≤ 146097 := by
  obtain ⟨g0, g1, g2⟩ := loB_fold cs I 146097 (by omega) (by omega)
  exact ⟨g0, g1⟩
theorem hiB_bd (cs : List Cl) (I : List Nat) : -1 ≤ hiB cs I ∧ hiB cs I ≤ 146096 := by
  obtain ⟨g0, g1, g2⟩ := hiB_fold cs I (-1) (by omega) (by omega)
  exact ⟨g1, g0⟩
theorem act_in {cs : List Cl} {n : Int} (h : actM cs n ≠ 0) : loC cs ≤ n ∧ n ≤ hiC cs := by
  have h1 : ¬ ∀ i, i < cs.length → i < 64 → liveD (atC cs i) n = false := fun e => h (actM_zero.2 e)
  have h2 : ∃ i, i < cs.length ∧ i < 64 ∧ liveD (atC cs i) n = true := by
    apply Classical.byContradiction
    intro e
    apply h1
    intro i a b
    cases hb : liveD (atC cs i) n
    · rfl
    · exact absurd ⟨i, a, b, hb⟩ e
  obtain ⟨i, a, b, hl⟩ := h2
  simp only [liveD, onD, Bool.and_eq_true, decide_eq_true_eq] at hl
  have hm : i ∈ liveI cs (min cs.length 64) := liveI_mem.2 ⟨by omega, hl.1⟩
  have l := (loB_fold cs (liveI cs (min cs.length 64)) 146097 (by omega) (by omega)).2.2 i hm
  have u := (hiB_fold cs (liveI cs (min cs.length 64)) (-1) (by omega) (by omega)).2.2 i hm
  have u' : unD (atC cs i) ≤ hiC cs := u
  have l' : loC cs ≤ frD (atC cs i) := l
  omega
def actB (cs : List Cl) (n : Int) : Bool := decide (actM cs n ≠ 0)
/-- the days of a set -/
def daysT (cs : List Cl) (a b : Int) : List Int := (daysL a b).filter (actB cs)
theorem daysT_clip (cs : List Cl) (a b : Int) : (daysL (max a (loC cs)) (min b (hiC cs))).filter (actB cs) = daysT cs a b :=
  daysL_clip fun n h => act_in (by simpa only [actB, decide_eq_true_eq] using h)
end Go.Proofs.YtcbanlgnanihhaaGreatDoor
namespace Go.Proofs.YtcbanlgnanihhaaGreatDoor
open Go.RowKit
set_option linter.unusedVariables false

/-- from when on, on a day, and up to when -/
def stF (c : Cl) (n : Int) : Int := max (max 0 c.fr) (86400 * n) - 86400 * n
def stU (c : Cl) (n : Int) : Int := min (min 12622780799 c.un) (86400 * n + 86399) - 86400 * n
/-- the state of any clause -/
def stG (c : Cl) (n : Int) : Value := if liveD c n then stv true (stF c n) (stU c n) (phaseC c n) else stv false 0 0 0
theorem lap_days {c : Cl} (h : heldB c.fr c.un = true) : frD c = max c.fr 0 / 86400 ∧ unD c = min c.un 12622780799 / 86400 ∧ max c.fr 0 ≤ min c.un 12622780799 := by
  have hle : max c.fr 0 ≤ min c.un 12622780799 := of_decide_eq_true h
  rw [frD, unD, heldF, heldU, h, if_pos rfl, if_pos rfl]
  exact ⟨rfl, rfl, hle⟩
/-- on a day of the span something of it is cut -/
theorem cut_some {c : Cl} {n : Int} (h : heldB c.fr c.un = true) (h1 : frD c ≤ n) (h2 : n ≤ unD c) : max (max 0 c.fr) (86400 * n) ≤ min (min 12622780799 c.un) (86400 * n + 86399) := by
  obtain ⟨e1, e2, e3⟩ := lap_days h
  rw [e1] at h1; rw [e2] at h2
  omega
/-- what lap takes of Cut is what the document takes of the meeting -/
theorem cut_mod {c : Cl} {n : Int} (h : heldB c.fr c.un = true) (h1 : frD c ≤ n) (h2 : n ≤ unD c) :
    max (max 0 c.fr) (86400 * n) % 86400 = stF c n ∧ min (min 12622780799 c.un) (86400 * n + 86399) % 86400 = stU c n := by
  have hc := cut_some h h1 h2
  rw [stF, stU]
  constructor <;> omega
/-- a day between is whole -/
theorem cut_mid {c : Cl} {n : Int} (h : heldB c.fr c.un = true) (h1 : frD c ≤ n) (h2 : n ≤ unD c) (n1 : n ≠ frD c) (n2 : n ≠ unD c) : stF c n = 0 ∧ stU c n = 86399 := by
  obtain ⟨e1, e2, e3⟩ := lap_days h
  rw [e1] at h1 n1; rw [e2] at h2 n2
  rw [stF, stU]
  constructor <;> omega
/-- a whole clause's state is LapAll's -/
theorem stG_whole {c : Cl} {n : Int} (hm : mayC c = true) (hf : c.fr = 0) (hu : c.un = 12622780799) (h0 : 0 ≤ n) (h1 : n < 146097) : stG c n = stateV c n := by
  have hB : heldB c.fr c.un = true := by rw [hf, hu]; rfl
  obtain ⟨e1, e2, e3⟩ := lap_days hB
  have hl : liveD c n = dayC c n := by
    rw [liveD, okD, onD, hB, hm, e1, e2, hf, hu, decide_eq_true (by omega), decide_eq_true (by omega)]; simp
  have hF : stF c n = 0 := by rw [stF, hf]; omega
  have hU : stU c n = 86399 := by rw [stU, hu]; omega
  rw [stG, stateV, hl, hF, hU]
end Go.Proofs.YtcbanlgnanihhaaGreatDoor
namespace Go.Proofs.YtcbanlgnanihhaaGreatDoor
open Go.RowKit
set_option linter.unusedVariables false

/-- a second is of a phase -/
def okS (c : Cl) (p : Int) (k : Nat) : Bool :=
  if 0 < sizeU c.unit ∧ (1 < c.step ∨ 0 < p) then decide (p ≤ (k : Int) / sizeU c.unit) && decide (((k : Int) / sizeU c.unit - p) % c.step = 0) else true
/-- the seconds of a state -/
def secQ (c : Cl) (a : Bool) (f u p : Int) (k : Nat) : Bool := a && (decide (0 ≤ p) && (mayC c && (todIn k (c.m 2) (c.m 1) (c.m 0) && (betB f u k && okS c p k))))
theorem phase_mod {a b s x : Int} (hs : 1 ≤ s) (hx : 0 ≤ x) : (decide ((a - b) % s ≤ x) && decide ((x - (a - b) % s) % s = 0)) = decide ((b + x - a) % s = 0) := by
  have e : (x - (a - b) % s) % s = (b + x - a) % s := by
    rw [Int.sub_emod x, Int.emod_emod_of_dvd _ (Int.dvd_refl s), ← Int.sub_emod, show x - (a - b) = b + x - a by omega]
  have r0 : 0 ≤ (a - b) % s := Int.emod_nonneg _ (by omega)
  have r1 : (a - b) % s < s := Int.emod_lt_of_pos _ (by omega)
  rw [Bool.eq_iff_iff, Bool.and_eq_true, decide_eq_true_eq, decide_eq_true_eq, decide_eq_true_eq, e]
  constructor
  · exact fun h => h.2
  · intro h
    refine ⟨?_, h⟩
    rw [← e] at h
    obtain ⟨j, hj⟩ := Int.dvd_of_emod_eq_zero h
    generalize (a - b) % s = r at *
    by_cases hj0 : 0 ≤ j
    · have := Int.mul_nonneg (show 0 ≤ s by omega) hj0
      omega
    · have := Int.mul_le_mul_of_nonneg_left (show j ≤ -1 by omega) (show 0 ≤ s by omega)
      omega
theorem whU_size {u t : Int} (hz : 0 < sizeU u) : whU u t = t / sizeU u := by
  rcases unit_cases u with rfl | rfl | rfl | ⟨h0, h1, h2, h⟩
  · rw [show sizeU 0 = 1 from rfl, Int.ediv_one]; rfl
  · rfl
  · rfl
  · omega
theorem sizeU_of {u : Int} (hz : 0 < sizeU u) : sizeU u = 1 ∨ sizeU u = 60 ∨ sizeU u = 3600 := by
  rcases unit_cases u with rfl | rfl | rfl | ⟨h0, h1, h2, h⟩
  · exact .inl rfl
  · exact .inr (.inl rfl)
  · exact .inr (.inr rfl)
  · omega
theorem okS_on {c : Cl} (hm : mayC c = true) (hz : 0 < sizeU c.unit) {n : Int} {k : Nat} (h0 : 0 ≤ n) (h1 : n < 146097) (hk : k < 86400) : okS c (phaseC c n) k = onB c.unit c.step c.anchor (86400 * n + k) := by
  obtain ⟨-, hs, hu, ha⟩ := may_ord hm
  obtain ⟨e1, e2⟩ := which_yes hu ha
  obtain ⟨e3, e4⟩ := which_yes hu (win_of (t := 86400 * n + k) (by omega) (by omega))
  rw [onB, e1, e3, e4, stepB, decide_eq_true hs, whU_size hz, okS, phaseC]
  obtain ⟨A, hA⟩ : ∃ A, whichI c.unit c.anchor = A := ⟨_, rfl⟩
  rw [hA]
  have hd : (86400 * n + (k : Int)) / sizeU c.unit = 86400 * n / sizeU c.unit + (k : Int) / sizeU c.unit := by
    rcases sizeU_of hz with h | h | h <;> rw [h] <;> omega
  have hx : 0 ≤ (k : Int) / sizeU c.unit := by
    rcases sizeU_of hz with h | h | h <;> rw [h] <;> omega
  rw [hd]
  obtain ⟨B, hB⟩ : ∃ B, 86400 * n / sizeU c.unit = B := ⟨_, rfl⟩
  obtain ⟨X, hX⟩ : ∃ X, (k : Int) / sizeU c.unit = X := ⟨_, rfl⟩
  rw [hB, hX]
  rw [hX] at hx
  by_cases h1s : 1 < c.step
  · rw [if_pos (show 1 < c.step ∧ 0 < sizeU c.unit from ⟨h1s, hz⟩), if_pos ⟨hz, .inl h1s⟩, phase_mod hs hx]; simp
  · have e : c.step = 1 := by omega
    rw [if_neg (show ¬ (1 < c.step ∧ 0 < sizeU c.unit) by omega), if_neg (by omega), e]; simp
/-- the state's parts -/
def sF (c : Cl) (n : Int) : Int := if liveD c n then stF c n else 0
def sU (c : Cl) (n : Int) : Int := if liveD c n then stU c n else 0
def sP (c : Cl) (n : Int) : Int := if liveD c n then phaseC c n else 0
theorem stG_parts (c : Cl) (n : Int) : stG c n = stv (liveD c n) (sF c n) (sU c n) (sP c n) := by
  rw [stG, sF, sU, sP]
  cases liveD c n <;> rfl
theorem phase_nn {c : Cl} (hm : mayC c = true) (n : Int) : 0 ≤ phaseC c n := by
  obtain ⟨-, hs, -, -⟩ := may_ord hm
  rw [phaseC]
  split
  · exact Int.emod_nonneg _ (by omega)
  · omega
theorem live_may {c : Cl} {n : Int} (h : liveD c n = true) : mayC c = true ∧ heldB c.fr c.un = true ∧ dayC c n = true ∧ frD c ≤ n ∧ n ≤ unD c := by
  simp only [liveD, okD, onD, Bool.and_eq_true, decide_eq_true_eq] at h
  exact ⟨h.1.2, h.1.1, h.2.2.2, h.2.1, h.2.2.1⟩
theorem bet_live {c : Cl} {n : Int} {k : Nat} (h0 : 0 ≤ n) (h1 : n < 146097) (hk : k < 86400) : betB (stF c n) (stU c n) k = betB c.fr c.un (86400 * n + k) := by
  have e1 : stF c n ≤ (k : Int) ↔ c.fr ≤ 86400 * n + k := by unfold stF; constructor <;> intro h <;> omega
  have e2 : (k : Int) ≤ stU c n ↔ 86400 * n + k ≤ c.un := by unfold stU; constructor <;> intro h <;> omega
  rw [betB, betB, Bool.eq_iff_iff]
  simp only [Bool.and_eq_true, decide_eq_true_eq]
  rw [e1, e2]
theorem bet_days {c : Cl} {n : Int} {k : Nat} (h0 : 0 ≤ n) (h1 : n < 146097) (hk : k < 86400) (h : betB c.fr c.un (86400 * n + k) = true) : heldB c.fr c.un = true ∧ frD c ≤ n ∧ n ≤ unD c := by
  rw [betB] at h
  simp only [Bool.and_eq_true, decide_eq_true_eq] at h
  have hB : heldB c.fr c.un = true := decide_eq_true (by omega)
  obtain ⟨e1, e2, e3⟩ := lap_days hB
  refine ⟨hB, ?_, ?_⟩
  · rw [e1]; omega
  · rw [e2]; omega
theorem secQ_has (c : Cl) {n : Int} {k : Nat} (h0 : 0 ≤ n) (h1 : n < 146097) (hk : k < 86400) : secQ c (liveD c n) (sF c n) (sU c n) (sP c n) k = hasC c (86400 * n + k) := by
  have hw : winB (86400 * n + k) = true := win_of (by omega) (by omega)
  rw [secQ, hasC, hw, Bool.true_and, show (86400 * n + (k : Int)) % 86400 = k by omega, show (86400 * n + (k : Int)) / 86400 = n by omega]
  cases hl : liveD c n
  · rw [Bool.false_and]
    cases hb : betB c.fr c.un (86400 * n + k)
    · simp
    · obtain ⟨g1, g2, g3⟩ := bet_days h0 h1 hk hb
      have : (mayC c && dayC c n) = false := by
        rw [liveD, okD, onD, g1, decide_eq_true g2, decide_eq_true g3] at hl; simpa using hl
      rcases Bool.and_eq_false_iff.1 this with h | h <;> rw [h] <;> simp
  · obtain ⟨hm, hB, hd, g1, g2⟩ := live_may hl
    obtain ⟨-, hs, hu, ha⟩ := may_ord hm
    rw [sF, sU, sP, hl, if_pos rfl, if_pos rfl, if_pos rfl, bet_live h0 h1 hk, hm, hd, decide_eq_true (phase_nn hm n), Bool.and_true]
    have : okS c (phaseC c n) k = onB c.unit c.step c.anchor (86400 * n + k) := by
      rcases sizeU_cases c.unit with hz | hz
      · exact okS_on hm hz h0 h1 hk
      · have e := dayOn_on (t := 86400 * n + k) hu ha hs (by omega) (by omega) hz
        rw [show (86400 * n + (k : Int)) / 86400 = n by omega] at e
        rw [dayC, hm, Bool.true_and, Bool.and_eq_true] at hd
        rw [← e, hd.2, okS, if_neg (by omega)]
    rw [this]
    simp only [Bool.true_and]
    cases betB c.fr c.un (86400 * n + k) <;> cases todIn k (c.m 2) (c.m 1) (c.m 0) <;> simp
/-- the seconds of a day of a set -/
def dayQ (cs : List Cl) (n : Int) (k : Nat) : Bool := cs.any fun c => hasC c (86400 * n + k)
end Go.Proofs.YtcbanlgnanihhaaGreatDoor

/-
  The first second from one on by a search through the list; the last one; how many.
-/
import Derived.Test.YtdggflkkojmabaaDoorTodMore
namespace Go.Proofs.YtdggflkkojmabaaDoor
open Go.RowKit
set_option linter.unusedVariables false

/-- what the search has found among the first k -/
def wantK (L : List Int) (s : Int) (k : Nat) : Int := ((L.take k).find? (fun y => decide (s ≤ y))).getD (-1)
theorem wantK_zero (L : List Int) (s : Int) : wantK L s 0 = -1 := rfl
theorem wantK_step {L : List Int} {s : Int} {k : Nat} (hk : k < L.length) (hp : ∀ y ∈ L, 0 ≤ y) (h : wantK L s k < 0) : wantK L s (k + 1) = if s ≤ L[k] then L[k] else -1 := by
  unfold wantK at h ⊢
  rw [take_snoc L k hk, List.find?_append]
  cases hf : (L.take k).find? (fun y => decide (s ≤ y)) with
  | some y =>
    rw [hf] at h
    have := hp y (List.mem_of_mem_take (List.mem_of_find?_eq_some hf))
    simp at h; omega
  | none =>
    by_cases hs : s ≤ L[k]
    · simp [hs]
    · simp [hs]
theorem wantK_neg {L : List Int} {s : Int} {k : Nat} (hp : ∀ y ∈ L, 0 ≤ y) (h : wantK L s k < 0) : wantK L s k = -1 := by
  unfold wantK at h ⊢
  cases hf : (L.take k).find? (fun y => decide (s ≤ y)) with
  | none => rfl
  | some y =>
    rw [hf] at h
    have := hp y (List.mem_of_mem_take (List.mem_of_find?_eq_some hf))
    simp at h; omega
theorem wantK_done {L : List Int} {s : Int} {k : Nat} (h : 0 ≤ wantK L s k) : wantK L s L.length = wantK L s k := by
  unfold wantK at h ⊢
  cases hf : (L.take k).find? (fun y => decide (s ≤ y)) with
  | none => rw [hf] at h; simp at h
  | some y =>
    have : L.find? (fun y => decide (s ≤ y)) = some y := by
      conv => lhs; rw [← List.take_append_drop k L]
      rw [List.find?_append, hf]; rfl
    rw [List.take_length, this]
theorem wantK_first {L : List Int} {s : Int} {r : Int × Bool} (hp : ∀ y ∈ L, 0 ≤ y) (hr : L.Pairwise (· < ·)) (hf : FirstFrom L s r) :
    (0 ≤ wantK L s L.length ∧ wantK L s L.length ∈ L ∧ r.2 = true ∧ r.1 = wantK L s L.length) ∨ (wantK L s L.length = -1 ∧ r.2 = false ∧ r.1 = 0) := by
  unfold wantK
  rw [List.take_length]
  cases hx : L.find? (fun y => decide (s ≤ y)) with
  | none =>
    right
    have hn := List.find?_eq_none.mp hx
    rcases hf with ⟨_, h2, h3, _⟩ | ⟨h1, h2, _⟩
    · have := hn r.1 h2; simp at this; omega
    · exact ⟨rfl, h1, h2⟩
  | some y =>
    left
    have hm := List.mem_of_find?_eq_some hx
    have hs : s ≤ y := by simpa using List.find?_some hx
    rcases hf with ⟨h1, h2, h3, h4⟩ | ⟨_, _, h3⟩
    · refine ⟨hp y hm, hm, h1, ?_⟩
      have h5 := h4 y hm hs
      obtain ⟨_, l1, l2, hL, hno⟩ := List.find?_eq_some_iff_append.mp hx
      rw [hL] at h2 hr
      rcases List.mem_append.mp h2 with h6 | h6
      · have := hno r.1 h6; simp at this; omega
      · rcases List.mem_cons.mp h6 with h7 | h7
        · exact h7
        · have := (List.pairwise_cons.mp (List.pairwise_append.mp hr).2.1).1 r.1 h7
          have e : r.1 ≤ y := h5
          omega
    · have := h3 y hm; omega

theorem sel_cut_bd (m : Nat) (t : Nat) {x : Int} (hx : x ∈ sel (cutM m t).testBit 64) : 0 ≤ x ∧ x ≤ t := by
  obtain ⟨k, hk, hb, rfl⟩ := sel_mem.mp hx
  rw [cutM_test] at hb
  simp at hb
  omega

/-- the seconds of three masks -/
def secsOf (hs ms ss : Nat) : List Int := secs (sel (cutM hs 23).testBit 64) (sel (cutM ms 59).testBit 64) (sel (cutM ss 59).testBit 64)
theorem secsOf_rising (hs ms ss : Nat) : (secsOf hs ms ss).Pairwise (· < ·) :=
  secs_rising (sel_rising _ 64) (sel_rising _ 64) (sel_rising _ 64) (fun x hx => sel_cut_bd ms 59 hx) (fun x hx => sel_cut_bd ss 59 hx)
theorem secsOf_bd (hs ms ss : Nat) {x : Int} (hx : x ∈ secsOf hs ms ss) : 0 ≤ x ∧ x < 86400 := by
  obtain ⟨h, m, s, h1, h2, h3, rfl⟩ := mem_secs.mp hx
  have := sel_cut_bd hs 23 h1
  have := sel_cut_bd ms 59 h2
  have := sel_cut_bd ss 59 h3
  omega
theorem secsOf_first (s : Int) (hs ms ss : Nat) (hh : hs < 18446744073709551616) (hm : ms < 18446744073709551616) (hss : ss < 18446744073709551616) : FirstFrom (secsOf hs ms ss) s (nextF s (cutM hs 23) (cutM ms 59) (cutM ss 59)) :=
  next_first s _ _ _ (cutM_lt 23 hh) (cutM_lt 59 hm) (cutM_lt 59 hss) (fun x hx => sel_cut_bd hs 23 hx) (fun x hx => sel_cut_bd ms 59 hx) (fun x hx => sel_cut_bd ss 59 hx)
theorem secsOf_len (hs ms ss : Nat) : lenT (cutM hs 23) (cutM ms 59) (cutM ss 59) = (secsOf hs ms ss).length := by
  rw [secsOf, secs_len, lenT, sel_pop, sel_pop, sel_pop, Nat.mul_assoc]

theorem topI_spec {m : Nat} (h0 : 0 < (sel m.testBit 64).length) : topI m ∈ sel m.testBit 64 ∧ ∀ y ∈ sel m.testBit 64, y ≤ topI m := by
  obtain ⟨j, hj⟩ : ∃ j, (sel m.testBit 64).length = j + 1 := ⟨(sel m.testBit 64).length - 1, by omega⟩
  unfold topI
  rw [hj, lastZ_succ _ j (by omega)]
  refine ⟨List.getElem_mem _, fun y hy => ?_⟩
  obtain ⟨i, hi, rfl⟩ := List.getElem_of_mem hy
  rcases Nat.lt_or_ge i j with h | h
  · have := List.pairwise_iff_getElem.mp (sel_rising m.testBit 64) i j (by omega) (by omega) h; omega
  · obtain rfl : i = j := by omega
    omega
theorem sel_pos {m : Nat} (hm : m < 18446744073709551616) : m ≠ 0 ↔ 0 < (sel m.testBit 64).length := by
  have h := (least_at hm).1
  rw [leastB] at h
  rw [← decide_eq_decide]; exact h
theorem secsOf_last (hs ms ss : Nat) (hh : hs < 18446744073709551616) (hm : ms < 18446744073709551616) (hss : ss < 18446744073709551616) :
    ((secsOf hs ms ss).length = 0 ∧ lastT (cutM hs 23) (cutM ms 59) (cutM ss 59) = (0, false)) ∨ (∃ h : 0 < (secsOf hs ms ss).length, lastT (cutM hs 23) (cutM ms 59) (cutM ss 59) = ((secsOf hs ms ss)[(secsOf hs ms ss).length - 1], true)) := by
  have pa := sel_pos (cutM_lt 23 hh)
  have pb := sel_pos (cutM_lt 59 hm)
  have pc := sel_pos (cutM_lt 59 hss)
  have hl : (secsOf hs ms ss).length = (sel (cutM hs 23).testBit 64).length * ((sel (cutM ms 59).testBit 64).length * (sel (cutM ss 59).testBit 64).length) := secs_len _ _ _
  by_cases h4 : cutM hs 23 = 0 ∨ cutM ms 59 = 0 ∨ cutM ss 59 = 0
  · left
    refine ⟨?_, if_pos h4⟩
    rw [hl]
    rcases h4 with h | h | h
    · rw [first_no h]; simp
    · rw [first_no h]; simp
    · rw [first_no h]; simp
  · right
    have qa := pa.mp (by omega)
    have qb := pb.mp (by omega)
    have qc := pc.mp (by omega)
    have hpos : 0 < (secsOf hs ms ss).length := by rw [hl]; exact Nat.mul_pos qa (Nat.mul_pos qb qc)
    refine ⟨hpos, ?_⟩
    rw [lastT, if_neg h4]
    congr 1
    have ta := topI_spec qa
    have tb := topI_spec qb
    have tc := topI_spec qc
    have hmem : topI (cutM hs 23) * 3600 + topI (cutM ms 59) * 60 + topI (cutM ss 59) ∈ secsOf hs ms ss := mem_secs.mpr ⟨_, _, _, ta.1, tb.1, tc.1, by omega⟩
    have hmax : ∀ y ∈ secsOf hs ms ss, y ≤ topI (cutM hs 23) * 3600 + topI (cutM ms 59) * 60 + topI (cutM ss 59) := fun y hy => by
      obtain ⟨h, m, s, h1, h2, h3, rfl⟩ := mem_secs.mp hy
      have := ta.2 h h1
      have := tb.2 m h2
      have := tc.2 s h3
      omega
    obtain ⟨i, hi, he⟩ := List.getElem_of_mem hmem
    have h1 := hmax _ (List.getElem_mem (l := secsOf hs ms ss) (n := (secsOf hs ms ss).length - 1) (by omega))
    rcases Nat.lt_or_ge i ((secsOf hs ms ss).length - 1) with h | h
    · have := List.pairwise_iff_getElem.mp (secsOf_rising hs ms ss) i _ hi (by omega) h
      omega
    · have : i = (secsOf hs ms ss).length - 1 := by omega
      subst this
      exact he.symm
theorem secsOf_last' (hs ms ss : Nat) (hh : hs < 18446744073709551616) (hm : ms < 18446744073709551616) (hss : ss < 18446744073709551616) :
    ((secsOf hs ms ss).length = 0 ∧ lastT (cutM hs 23) (cutM ms 59) (cutM ss 59) = (0, false)) ∨ (0 < (secsOf hs ms ss).length ∧ lastT (cutM hs 23) (cutM ms 59) (cutM ss 59) = ((secsOf hs ms ss).getD ((secsOf hs ms ss).length - 1) 0, true)) := by
  rcases secsOf_last hs ms ss hh hm hss with h | ⟨h, e⟩
  · exact .inl h
  · exact .inr ⟨h, by rw [e, List.getD_eq_getElem?_getD, List.getElem?_eq_getElem (by omega)]; rfl⟩
end Go.Proofs.YtdggflkkojmabaaDoor

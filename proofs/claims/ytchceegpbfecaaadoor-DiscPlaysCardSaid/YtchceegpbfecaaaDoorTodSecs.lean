/-
  The seconds of three lists of hours, minutes and seconds, rising; and that tod.Next's answer is the first one from a second on.
  ferialaw07.lives answers true.
  What feriaref07.Held, tod.Last and tod.Len compute.
  The first second from one on by a search through the list; the last one; how many.
-/
import Derived.Test.YtchceegpbfecaaaDoorTodNext
import Derived.Test.YtchceegpbfecaaaDoorMaskIter
import Derived.Test.YtchceegpbfecaaaDoorCollectAll
namespace Go.Proofs.YtchceegpbfecaaaDoor
open Go.RowKit
set_option linter.unusedVariables false

def secRow (h m : Int) (S : List Int) : List Int := S.map (fun s => 3600 * h + 60 * m + s)
def secHour (h : Int) (M S : List Int) : List Int := M.flatMap (fun m => secRow h m S)
def secs (H M S : List Int) : List Int := H.flatMap (fun h => secHour h M S)

theorem mem_secs {H M S : List Int} {x : Int} : x ∈ secs H M S ↔ ∃ h m s, h ∈ H ∧ m ∈ M ∧ s ∈ S ∧ x = 3600 * h + 60 * m + s := by
  simp only [secs, secHour, secRow, List.mem_flatMap, List.mem_map]
  constructor
  · rintro ⟨h, hh, m, hm, s, hs, rfl⟩; exact ⟨h, m, s, hh, hm, hs, rfl⟩
  · rintro ⟨h, m, s, hh, hm, hs, rfl⟩; exact ⟨h, hh, m, hm, s, hs, rfl⟩

theorem secRow_len (h m : Int) (S : List Int) : (secRow h m S).length = S.length := by simp [secRow]
theorem secHour_len (h : Int) (M S : List Int) : (secHour h M S).length = M.length * S.length := by
  induction M with
  | nil => simp [secHour]
  | cons m M ih =>
    have : secHour h (m :: M) S = secRow h m S ++ secHour h M S := by simp [secHour]
    rw [this, List.length_append, ih, secRow_len, List.length_cons, Nat.succ_mul]; omega
theorem secs_len (H M S : List Int) : (secs H M S).length = H.length * (M.length * S.length) := by
  induction H with
  | nil => simp [secs]
  | cons h H ih =>
    have : secs (h :: H) M S = secHour h M S ++ secs H M S := by simp [secs]
    rw [this, List.length_append, ih, secHour_len, List.length_cons, Nat.succ_mul]; omega

theorem secs_rising {H M S : List Int} (hH : H.Pairwise (· < ·)) (hM : M.Pairwise (· < ·)) (hS : S.Pairwise (· < ·)) (bM : ∀ m ∈ M, 0 ≤ m ∧ m ≤ 59) (bS : ∀ s ∈ S, 0 ≤ s ∧ s ≤ 59) : (secs H M S).Pairwise (· < ·) := by
  have row : ∀ h m, (secRow h m S).Pairwise (· < ·) := fun h m => List.pairwise_map.mpr (hS.imp (fun {a b} hab => by omega))
  have inRow : ∀ h m x, x ∈ secRow h m S → 3600 * h + 60 * m ≤ x ∧ x < 3600 * h + 60 * m + 60 := fun h m x hx => by
    obtain ⟨s, hs, rfl⟩ := List.mem_map.mp hx
    have := bS s hs
    omega
  have hour : ∀ h (M' : List Int), M'.Pairwise (· < ·) → (secHour h M' S).Pairwise (· < ·) := fun h M' hM' => by
    induction M' with
    | nil => simp [secHour]
    | cons m M' ih =>
      have e : secHour h (m :: M') S = secRow h m S ++ secHour h M' S := by simp [secHour]
      rw [e, List.pairwise_append]
      rw [List.pairwise_cons] at hM'
      refine ⟨row h m, ih hM'.2, fun x hx y hy => ?_⟩
      obtain ⟨m2, hm2, hy⟩ := List.mem_flatMap.mp hy
      have h1 := inRow h m x hx
      have h2 := inRow h m2 y hy
      have := hM'.1 m2 hm2
      omega
  have inHour : ∀ h x, x ∈ secHour h M S → 3600 * h ≤ x ∧ x < 3600 * h + 3600 := fun h x hx => by
    obtain ⟨m, hm, hx⟩ := List.mem_flatMap.mp hx
    have h1 := inRow h m x hx
    have := bM m hm
    omega
  induction H with
  | nil => simp [secs]
  | cons h H ih =>
    have e : secs (h :: H) M S = secHour h M S ++ secs H M S := by simp [secs]
    rw [e, List.pairwise_append]
    rw [List.pairwise_cons] at hH
    refine ⟨hour h M hM, ih hH.2, fun x hx y hy => ?_⟩
    obtain ⟨h2, hh2, hy⟩ := List.mem_flatMap.mp hy
    have h1 := inHour h x hx
    have h3 := inHour h2 y hy
    have := hH.1 h2 hh2
    omega

/-- x is the first of l from s on; or there is none -/
def FirstFrom (l : List Int) (s : Int) (r : Int × Bool) : Prop :=
  (r.2 = true ∧ r.1 ∈ l ∧ s ≤ r.1 ∧ ∀ y ∈ l, s ≤ y → r.1 ≤ y) ∨ (r.2 = false ∧ r.1 = 0 ∧ ∀ y ∈ l, y < s)

theorem mem_sel {m : Nat} {x : Int} : x ∈ sel m.testBit 64 ↔ ∃ k : Nat, k < 64 ∧ m.testBit k = true ∧ x = (k : Int) := sel_mem
/-- what Next of a mask tells -/
theorem above_spec {m : Nat} (hm : m < 18446744073709551616) (n : Int) :
    (leastB (aboveM m n) = true ∧ leastI (aboveM m n) ∈ sel m.testBit 64 ∧ n < leastI (aboveM m n) ∧ ∀ y ∈ sel m.testBit 64, n < y → leastI (aboveM m n) ≤ y) ∨
    (leastB (aboveM m n) = false ∧ ∀ y ∈ sel m.testBit 64, y ≤ n) := by
  by_cases h0 : aboveM m n = 0
  · refine .inr ⟨by simp [leastB, h0], fun y hy => ?_⟩
    obtain ⟨k, hk, hb, rfl⟩ := mem_sel.mp hy
    have := aboveM_test n k hm
    rw [h0] at this
    simp [hb] at this
    omega
  · have hsp := lsb_spec h0 (aboveM_lt hm)
    refine .inl ⟨by simp [leastB, h0], ?_, ?_, ?_⟩
    · rw [leastI, if_neg h0]
      have := aboveM_test n (lsb (aboveM m n)) hm
      rw [hsp.2.1] at this
      simp at this
      exact mem_sel.mpr ⟨_, hsp.1, this.2, rfl⟩
    · rw [leastI, if_neg h0]
      have := aboveM_test n (lsb (aboveM m n)) hm
      rw [hsp.2.1] at this
      simp at this
      exact this.1
    · intro y hy hn
      obtain ⟨k, hk, hb, rfl⟩ := mem_sel.mp hy
      rw [leastI, if_neg h0]
      rcases Nat.lt_or_ge k (lsb (aboveM m n)) with h | h
      · have h1 := hsp.2.2 k h
        have h2 := aboveM_test n k hm
        rw [h1, hb] at h2
        simp at h2
        omega
      · omega
theorem above_low {m : Nat} : aboveM m (-1) = m := by simp [aboveM]
theorem least_spec {m : Nat} (hm : m < 18446744073709551616) (h0 : m ≠ 0) : leastI m ∈ sel m.testBit 64 ∧ ∀ y ∈ sel m.testBit 64, leastI m ≤ y := by
  have h := above_spec hm (-1)
  rw [above_low] at h
  rcases h with ⟨_, h2, _, h4⟩ | ⟨h1, _⟩
  · refine ⟨h2, fun y hy => h4 y hy ?_⟩
    obtain ⟨k, _, _, rfl⟩ := mem_sel.mp hy; omega
  · simp [leastB, h0] at h1
theorem hasB_spec {m : Nat} {n : Int} (hm : m < 18446744073709551616) : hasB m n = true ↔ n ∈ sel m.testBit 64 := by
  rw [mem_sel]
  simp only [hasB, Bool.and_eq_true, decide_eq_true_eq]
  constructor
  · rintro ⟨h1, h2⟩
    refine ⟨n.toNat, ?_, h2, by omega⟩
    rcases Nat.lt_or_ge n.toNat 64 with h | h
    · exact h
    · rw [test_big hm h] at h2; cases h2
  · rintro ⟨k, _, hb, rfl⟩
    exact ⟨by omega, by simpa using hb⟩

theorem next_first (s : Int) (a b c : Nat) (ha : a < 18446744073709551616) (hb : b < 18446744073709551616) (hc : c < 18446744073709551616)
    (bA : ∀ x ∈ sel a.testBit 64, 0 ≤ x ∧ x ≤ 23) (bB : ∀ x ∈ sel b.testBit 64, 0 ≤ x ∧ x ≤ 59) (bC : ∀ x ∈ sel c.testBit 64, 0 ≤ x ∧ x ≤ 59) :
    FirstFrom (secs (sel a.testBit 64) (sel b.testBit 64) (sel c.testBit 64)) s (nextF s a b c) := by
  unfold nextF
  by_cases h4 : a = 0 ∨ b = 0 ∨ c = 0 ∨ 86400 ≤ s
  · rw [if_pos h4]
    refine .inr ⟨rfl, rfl, fun y hy => ?_⟩
    obtain ⟨h, m, z, hh, hm, hz, rfl⟩ := mem_secs.mp hy
    have h1 := bA h hh
    have h2 := bB m hm
    have h3 := bC z hz
    rcases h4 with rfl | rfl | rfl | h4
    · rw [first_no rfl] at hh; cases hh
    · rw [first_no rfl] at hm; cases hm
    · rw [first_no rfl] at hz; cases hz
    · omega
  · rw [if_neg h4]
    have hb0 : b ≠ 0 := by omega
    have hc0 : c ≠ 0 := by omega
    have hs : s < 86400 := by omega
    obtain ⟨t, ht⟩ : ∃ t, max s 0 = t := ⟨_, rfl⟩
    have ht0 : 0 ≤ t ∧ t < 86400 ∧ s ≤ t ∧ (t = s ∨ t = 0 ∧ s < 0) := by omega
    rw [ht]
    clear ht h4
    obtain ⟨u, hu⟩ : ∃ u, t / 3600 = u := ⟨_, rfl⟩
    obtain ⟨m, hm⟩ : ∃ u, t / 60 % 60 = u := ⟨_, rfl⟩
    obtain ⟨z, hz⟩ : ∃ u, t % 60 = u := ⟨_, rfl⟩
    have hT : t = 3600 * u + 60 * m + z ∧ 0 ≤ u ∧ u ≤ 23 ∧ 0 ≤ m ∧ m ≤ 59 ∧ 0 ≤ z ∧ z ≤ 59 := by omega
    unfold nextT
    rw [hu, hm, hz]
    clear hu hm hz
    have sa := above_spec ha u
    have sb := above_spec hb m
    have sc := above_spec hc (z - 1)
    have lb := least_spec hb hb0
    have lc := least_spec hc hc0
    have pa := hasB_spec (n := u) ha
    have pb := hasB_spec (n := m) hb
    obtain ⟨hT1, hT2, hT3, hT4, hT5, hT6, hT7⟩ := hT
    obtain ⟨t1, t2, t3, t4⟩ := ht0
    have key : ∀ h' m' z', h' ∈ sel a.testBit 64 → m' ∈ sel b.testBit 64 → z' ∈ sel c.testBit 64 → s ≤ 3600 * h' + 60 * m' + z' → u ≤ h' ∧ (h' = u → m ≤ m' ∧ (m' = m → z ≤ z')) := fun h' m' z' k1 k2 k3 k4 => by
      have h1 := bA h' k1
      have h2 := bB m' k2
      have h3 := bC z' k3
      refine ⟨by omega, fun e => ⟨by omega, fun e2 => by omega⟩⟩
    by_cases c1 : (hasB a u && (hasB b m && leastB (aboveM c (z - 1)))) = true
    · rw [if_pos c1]
      simp only [Bool.and_eq_true] at c1
      obtain ⟨q1, q2, q3⟩ := c1
      rw [q3] at sc
      rcases sc with ⟨_, sc2, sc3, sc4⟩ | ⟨h, _⟩
      · obtain ⟨x, hx⟩ : ∃ x, leastI (aboveM c (z - 1)) = x := ⟨_, rfl⟩
        rw [hx] at sc2 sc3 sc4 ⊢
        refine .inl ⟨rfl, mem_secs.mpr ⟨u, m, x, pa.mp q1, pb.mp q2, sc2, by show u * 3600 + m * 60 + x = _; omega⟩, by show s ≤ u * 3600 + m * 60 + x; omega, fun y hy hsy => ?_⟩
        obtain ⟨h', m', z', k1, k2, k3, rfl⟩ := mem_secs.mp hy
        have k5 := key h' m' z' k1 k2 k3 hsy
        have h2 := bB m' k2
        have h3 := bC z' k3
        have h4 := bC x sc2
        have h6 := sc4 z' k3
        show u * 3600 + m * 60 + x ≤ _
        omega
      · cases h
    · rw [if_neg c1]
      have c1' : u ∈ sel a.testBit 64 → m ∈ sel b.testBit 64 → ∀ y ∈ sel c.testBit 64, y < z := fun k1 k2 y hy => by
        rcases sc with ⟨h, _⟩ | ⟨_, h⟩
        · exact absurd (by rw [pa.mpr k1, pb.mpr k2, h]; rfl) c1
        · have := h y hy; omega
      obtain ⟨lx, hlx⟩ : ∃ x, leastI c = x := ⟨_, rfl⟩
      rw [hlx] at lc ⊢
      by_cases c2 : (hasB a u && leastB (aboveM b m)) = true
      · rw [if_pos c2]
        simp only [Bool.and_eq_true] at c2
        obtain ⟨q1, q2⟩ := c2
        rw [q2] at sb
        rcases sb with ⟨_, sb2, sb3, sb4⟩ | ⟨h, _⟩
        · obtain ⟨x, hx⟩ : ∃ x, leastI (aboveM b m) = x := ⟨_, rfl⟩
          rw [hx] at sb2 sb3 sb4 ⊢
          have h7 := bC lx lc.1
          refine .inl ⟨rfl, mem_secs.mpr ⟨u, x, lx, pa.mp q1, sb2, lc.1, by show u * 3600 + x * 60 + lx = _; omega⟩, by show s ≤ u * 3600 + x * 60 + lx; omega, fun y hy hsy => ?_⟩
          obtain ⟨h', m', z', k1, k2, k3, rfl⟩ := mem_secs.mp hy
          have k5 := key h' m' z' k1 k2 k3 hsy
          have h2 := bB m' k2
          have h3 := bC z' k3
          have h8 := bB x sb2
          have h4 := lc.2 z' k3
          show u * 3600 + x * 60 + lx ≤ _
          rcases Int.lt_or_le u h' with h9 | h9
          · omega
          · have e1 : h' = u := by omega
            rcases Int.lt_or_le m m' with h10 | h10
            · have := sb4 m' k2 h10
              omega
            · have e2 : m' = m := by have := (k5.2 e1).1; omega
              have h11 := ((k5.2 e1).2 e2)
              have h12 := c1' (e1 ▸ k1) (e2 ▸ k2) z' k3
              omega
        · cases h
      · rw [if_neg c2]
        have c2' : u ∈ sel a.testBit 64 → ∀ y ∈ sel b.testBit 64, y ≤ m := fun k1 y hy => by
          rcases sb with ⟨h, _⟩ | ⟨_, h⟩
          · exact absurd (by rw [pa.mpr k1, h]; rfl) c2
          · exact h y hy
        have none_u : ∀ h' m' z', h' ∈ sel a.testBit 64 → m' ∈ sel b.testBit 64 → z' ∈ sel c.testBit 64 → s ≤ 3600 * h' + 60 * m' + z' → u < h' := fun h' m' z' k1 k2 k3 k4 => by
          have k5 := key h' m' z' k1 k2 k3 k4
          rcases Int.lt_or_le u h' with h9 | h9
          · exact h9
          · have e1 : h' = u := by omega
            have h10 := c2' (e1 ▸ k1) m' k2
            have e2 : m' = m := by have := (k5.2 e1).1; omega
            have h11 := ((k5.2 e1).2 e2)
            have h12 := c1' (e1 ▸ k1) (e2 ▸ k2) z' k3
            omega
        rcases sa with ⟨q1, sa2, sa3, sa4⟩ | ⟨q1, sa2⟩
        · rw [if_pos q1]
          obtain ⟨x, hx⟩ : ∃ x, leastI (aboveM a u) = x := ⟨_, rfl⟩
          obtain ⟨ly, hly⟩ : ∃ x, leastI b = x := ⟨_, rfl⟩
          rw [hx] at sa2 sa3 sa4 ⊢
          rw [hly] at lb ⊢
          have h7 := bC lx lc.1
          have h8 := bB ly lb.1
          refine .inl ⟨rfl, mem_secs.mpr ⟨x, ly, lx, sa2, lb.1, lc.1, by show x * 3600 + ly * 60 + lx = _; omega⟩, by show s ≤ x * 3600 + ly * 60 + lx; omega, fun y hy hsy => ?_⟩
          obtain ⟨h', m', z', k1, k2, k3, rfl⟩ := mem_secs.mp hy
          have k5 := none_u h' m' z' k1 k2 k3 hsy
          have h2 := bB m' k2
          have h3 := bC z' k3
          have h4 := lc.2 z' k3
          have h5 := lb.2 m' k2
          have h6 := sa4 h' k1 k5
          show x * 3600 + ly * 60 + lx ≤ _
          omega
        · rw [if_neg (by rw [q1]; simp)]
          refine .inr ⟨rfl, rfl, fun y hy => ?_⟩
          obtain ⟨h', m', z', k1, k2, k3, rfl⟩ := mem_secs.mp hy
          rcases Int.lt_or_le (3600 * h' + 60 * m' + z') s with h | h
          · exact h
          · have k5 := none_u h' m' z' k1 k2 k3 h
            have := sa2 h' k1
            omega
end Go.Proofs.YtchceegpbfecaaaDoor
namespace Go.Proofs.YtchceegpbfecaaaDoor
open Go.RowKit
set_option linter.unusedVariables false

theorem lives07_facts : todI 1 2 3 = 3723 ∧ todB 1 2 3 = true ∧ (nextF 3724 (cutM 2 23) (cutM 4 59) (cutM 1073741825 59)).1 = 3750 ∧ (nextF 3724 (cutM 2 23) (cutM 4 59) (cutM 1073741825 59)).2 = true := by
  refine ⟨?_, ?_, ?_, ?_⟩ <;> decide +kernel

end Go.Proofs.YtchceegpbfecaaaDoor
namespace Go.Proofs.YtchceegpbfecaaaDoor
open Go.RowKit
set_option linter.unusedVariables false

theorem held_law (x t : Nat) (ht : t < 64) (hx : x < 18446744073709551616) : ofM (sel x.testBit (t + 1)) = cutM x t := by
  symm
  refine eq_mk (cutM_lt _ hx) (fun i hi => ?_)
  rw [cutM_test, inB, Bool.eq_iff_iff]
  simp only [Bool.and_eq_true, decide_eq_true_eq, sel_mem]
  constructor
  · rintro ⟨h1, h2, h3⟩; exact ⟨i, by omega, h1, rfl⟩
  · rintro ⟨k, h1, h2, h3⟩
    have : i = k := by omega
    subst this
    exact ⟨h2, hi, by omega⟩

theorem topI_bd (m : Nat) : 0 ≤ topI m ∧ topI m ≤ 63 := by
  unfold topI
  rcases Nat.eq_zero_or_pos (sel m.testBit 64).length with h | h
  · rw [h]; exact ⟨Int.le_refl _, by show (0 : Int) ≤ 63; omega⟩
  · obtain ⟨j, hj⟩ : ∃ j, (sel m.testBit 64).length = j + 1 := ⟨(sel m.testBit 64).length - 1, by omega⟩
    rw [hj, lastZ_succ _ j (by omega)]
    exact sel_bd j (by omega)

def lastT (a b c : Nat) : Int × Bool := if a = 0 ∨ b = 0 ∨ c = 0 then (0, false) else (topI a * 3600 + topI b * 60 + topI c, true)

def lenT (a b c : Nat) : Nat := Lib.popAux 64 a * Lib.popAux 64 b * Lib.popAux 64 c
theorem pop64_le (m : Nat) : Lib.popAux 64 m ≤ 64 := by rw [← sel_pop]; exact sel_len _ _
end Go.Proofs.YtchceegpbfecaaaDoor
namespace Go.Proofs.YtchceegpbfecaaaDoor
open Go.RowKit
set_option linter.unusedVariables false

/-- what the search has found among the first k -/
def wantK (L : List Int) (s : Int) (k : Nat) : Int := ((L.take k).find? (fun y => decide (s ≤ y))).getD (-1)
theorem wantK_zero (L : List Int) (s : Int) : wantK L s 0 = -1 := rfl
theorem wantK_step {L : List Int} {s : Int} {k : Nat} (hk : k < L.length) (hp : ∀ y ∈ L, 0 ≤ y) (h : wantK L s k < 0) : wantK L s (k + 1) = if s ≤ L[k] then L[k] else -1 := by
  unfold wantK at h ⊢
  rw [take_snoc L k hk, List.find?_append]
  cases hf : (L.take k).find? (fun y => decide (s ≤ y)) with
  | some y =>
    rw [hf] at h
    have := hp y (List.mem_of_mem_take (List.mem_of_find?_eq_some hf))
    simp at h; omega
  | none =>
    by_cases hs : s ≤ L[k]
    · simp [hs]
    · simp [hs]
theorem wantK_neg {L : List Int} {s : Int} {k : Nat} (hp : ∀ y ∈ L, 0 ≤ y) (h : wantK L s k < 0) : wantK L s k = -1 := by
  unfold wantK at h ⊢
  cases hf : (L.take k).find? (fun y => decide (s ≤ y)) with
  | none => rfl
  | some y =>
    rw [hf] at h
    have := hp y (List.mem_of_mem_take (List.mem_of_find?_eq_some hf))
    simp at h; omega
theorem wantK_done {L : List Int} {s : Int} {k : Nat} (h : 0 ≤ wantK L s k) : wantK L s L.length = wantK L s k := by
  unfold wantK at h ⊢
  cases hf : (L.take k).find? (fun y => decide (s ≤ y)) with
  | none => rw [hf] at h; simp at h
  | some y =>
    have : L.find? (fun y => decide (s ≤ y)) = some y := by
      conv => lhs; rw [← List.take_append_drop k L]
      rw [List.find?_append, hf]; rfl
    rw [List.take_length, this]
theorem wantK_first {L : List Int} {s : Int} {r : Int × Bool} (hp : ∀ y ∈ L, 0 ≤ y) (hr : L.Pairwise (· < ·)) (hf : FirstFrom L s r) :
    (0 ≤ wantK L s L.length ∧ wantK L s L.length ∈ L ∧ r.2 = true ∧ r.1 = wantK L s L.length) ∨ (wantK L s L.length = -1 ∧ r.2 = false ∧ r.1 = 0) := by
  unfold wantK
  rw [List.take_length]
  cases hx : L.find? (fun y => decide (s ≤ y)) with
  | none =>
    right
    have hn := List.find?_eq_none.mp hx
    rcases hf with ⟨_, h2, h3, _⟩ | ⟨h1, h2, _⟩
    · have := hn r.1 h2; simp at this; omega
    · exact ⟨rfl, h1, h2⟩
  | some y =>
    left
    have hm := List.mem_of_find?_eq_some hx
    have hs : s ≤ y := by simpa using List.find?_some hx
    rcases hf with ⟨h1, h2, h3, h4⟩ | ⟨_, _, h3⟩
    · refine ⟨hp y hm, hm, h1, ?_⟩
      have h5 := h4 y hm hs
      obtain ⟨_, l1, l2, hL, hno⟩ := List.find?_eq_some_iff_append.mp hx
      rw [hL] at h2 hr
      rcases List.mem_append.mp h2 with h6 | h6
      · have := hno r.1 h6; simp at this; omega
      · rcases List.mem_cons.mp h6 with h7 | h7
        · exact h7
        · have := (List.pairwise_cons.mp (List.pairwise_append.mp hr).2.1).1 r.1 h7
          have e : r.1 ≤ y := h5
          omega
    · have := h3 y hm; omega

theorem sel_cut_bd (m : Nat) (t : Nat) {x : Int} (hx : x ∈ sel (cutM m t).testBit 64) : 0 ≤ x ∧ x ≤ t := by
  obtain ⟨k, hk, hb, rfl⟩ := sel_mem.mp hx
  rw [cutM_test] at hb
  simp at hb
  omega

/-- the seconds of three masks -/
def secsOf (hs ms ss : Nat) : List Int := secs (sel (cutM hs 23).testBit 64) (sel (cutM ms 59).testBit 64) (sel (cutM ss 59).testBit 64)
theorem secsOf_rising (hs ms ss : Nat) : (secsOf hs ms ss).Pairwise (· < ·) :=
  secs_rising (sel_rising _ 64) (sel_rising _ 64) (sel_rising _ 64) (fun x hx => sel_cut_bd ms 59 hx) (fun x hx => sel_cut_bd ss 59 hx)
theorem secsOf_bd (hs ms ss : Nat) {x : Int} (hx : x ∈ secsOf hs ms ss) : 0 ≤ x ∧ x < 86400 := by
  obtain ⟨h, m, s, h1, h2, h3, rfl⟩ := mem_secs.mp hx
  have := sel_cut_bd hs 23 h1
  have := sel_cut_bd ms 59 h2
  have := sel_cut_bd ss 59 h3
  omega
theorem secsOf_first (s : Int) (hs ms ss : Nat) (hh : hs < 18446744073709551616) (hm : ms < 18446744073709551616) (hss : ss < 18446744073709551616) : FirstFrom (secsOf hs ms ss) s (nextF s (cutM hs 23) (cutM ms 59) (cutM ss 59)) :=
  next_first s _ _ _ (cutM_lt 23 hh) (cutM_lt 59 hm) (cutM_lt 59 hss) (fun x hx => sel_cut_bd hs 23 hx) (fun x hx => sel_cut_bd ms 59 hx) (fun x hx => sel_cut_bd ss 59 hx)
theorem secsOf_len (hs ms ss : Nat) : lenT (cutM hs 23) (cutM ms 59) (cutM ss 59) = (secsOf hs ms ss).length := by
  rw [secsOf, secs_len, lenT, sel_pop, sel_pop, sel_pop, Nat.mul_assoc]

theorem topI_spec {m : Nat} (h0 : 0 < (sel m.testBit 64).length) : topI m ∈ sel m.testBit 64 ∧ ∀ y ∈ sel m.testBit 64, y ≤ topI m := by
  obtain ⟨j, hj⟩ : ∃ j, (sel m.testBit 64).length = j + 1 := ⟨(sel m.testBit 64).length - 1, by omega⟩
  unfold topI
  rw [hj, lastZ_succ _ j (by omega)]
  refine ⟨List.getElem_mem _, fun y hy => ?_⟩
  obtain ⟨i, hi, rfl⟩ := List.getElem_of_mem hy
  rcases Nat.lt_or_ge i j with h | h
  · have := List.pairwise_iff_getElem.mp (sel_rising m.testBit 64) i j (by omega) (by omega) h; omega
  · obtain rfl : i = j := by omega
    omega
theorem sel_pos {m : Nat} (hm : m < 18446744073709551616) : m ≠ 0 ↔ 0 < (sel m.testBit 64).length := by
  have h := (least_at hm).1
  rw [leastB] at h
  rw [← decide_eq_decide]; exact h
theorem secsOf_last (hs ms ss : Nat) (hh : hs < 18446744073709551616) (hm : ms < 18446744073709551616) (hss : ss < 18446744073709551616) :
    ((secsOf hs ms ss).length = 0 ∧ lastT (cutM hs 23) (cutM ms 59) (cutM ss 59) = (0, false)) ∨ (∃ h : 0 < (secsOf hs ms ss).length, lastT (cutM hs 23) (cutM ms 59) (cutM ss 59) = ((secsOf hs ms ss)[(secsOf hs ms ss).length - 1], true)) := by
  have pa := sel_pos (cutM_lt 23 hh)
  have pb := sel_pos (cutM_lt 59 hm)
  have pc := sel_pos (cutM_lt 59 hss)
  have hl : (secsOf hs ms ss).length = (sel (cutM hs 23).testBit 64).length * ((sel (cutM ms 59).testBit 64).length * (sel (cutM ss 59).testBit 64).length) := secs_len _ _ _
  by_cases h4 : cutM hs 23 = 0 ∨ cutM ms 59 = 0 ∨ cutM ss 59 = 0
  · left
    refine ⟨?_, if_pos h4⟩
    rw [hl]
    rcases h4 with h | h | h
    · rw [first_no h]; simp
    · rw [first_no h]; simp
    · rw [first_no h]; simp
  · right
    have qa := pa.mp (by omega)
    have qb := pb.mp (by omega)
    have qc := pc.mp (by omega)
    have hpos : 0 < (secsOf hs ms ss).length := by rw [hl]; exact Nat.mul_pos qa (Nat.mul_pos qb qc)
    refine ⟨hpos, ?_⟩
    rw [lastT, if_neg h4]
    congr 1
    have ta := topI_spec qa
    have tb := topI_spec qb
    have tc := topI_spec qc
    have hmem : topI (cutM hs 23) * 3600 + topI (cutM ms 59) * 60 + topI (cutM ss 59) ∈ secsOf hs ms ss := mem_secs.mpr ⟨_, _, _, ta.1, tb.1, tc.1, by omega⟩
    have hmax : ∀ y ∈ secsOf hs ms ss, y ≤ topI (cutM hs 23) * 3600 + topI (cutM ms 59) * 60 + topI (cutM ss 59) := fun y hy => by
      obtain ⟨h, m, s, h1, h2, h3, rfl⟩ := mem_secs.mp hy
      have := ta.2 h h1
      have := tb.2 m h2
      have := tc.2 s h3
      omega
    obtain ⟨i, hi, he⟩ := List.getElem_of_mem hmem
    have h1 := hmax _ (List.getElem_mem (l := secsOf hs ms ss) (n := (secsOf hs ms ss).length - 1) (by omega))
    rcases Nat.lt_or_ge i ((secsOf hs ms ss).length - 1) with h | h
    · have := List.pairwise_iff_getElem.mp (secsOf_rising hs ms ss) i _ hi (by omega) h
      omega
    · have : i = (secsOf hs ms ss).length - 1 := by omega
      subst this
      exact he.symm
theorem secsOf_last' (hs ms ss : Nat) (hh : hs < 18446744073709551616) (hm : ms < 18446744073709551616) (hss : ss < 18446744073709551616) :
    ((secsOf hs ms ss).length = 0 ∧ lastT (cutM hs 23) (cutM ms 59) (cutM ss 59) = (0, false)) ∨ (0 < (secsOf hs ms ss).length ∧ lastT (cutM hs 23) (cutM ms 59) (cutM ss 59) = ((secsOf hs ms ss).getD ((secsOf hs ms ss).length - 1) 0, true)) := by
  rcases secsOf_last hs ms ss hh hm hss with h | ⟨h, e⟩
  · exact .inl h
  · exact .inr ⟨h, by rw [e, List.getD_eq_getElem?_getD, List.getElem?_eq_getElem (by omega)]; rfl⟩
end Go.Proofs.YtchceegpbfecaaaDoor

/-
  What a rule that may be is; ten cells of a block; the weekdays of a rule.
-/
import Derived.Test.YtndfckpcbiecnaaRuleBegin
import Derived.Test.YtndfckpcbiecnaaClFull
namespace Go.Proofs.Ytndfckpcbiecnaa
open Go.RowKit
set_option linter.unusedVariables false

theorem first_ok {l : List Int} (h : firstNZ l = 0) : ∀ x ∈ l, x = 0 := by
  induction l with
  | nil => simp
  | cons x l ih =>
    rw [firstNZ] at h
    intro y hy
    by_cases hx : x = 0
    · rw [if_pos hx] at h
      rcases List.mem_cons.1 hy with rfl | hy
      · exact hx
      · exact ih h y hy
    · rw [if_neg hx] at h; exact absurd h hx
structure Ru.Ok (r : Ru) : Prop where
  h : headE r = 0
  e5 : listE 1 12 r.l5 = 0
  e6 : daysE r = 0
  e7 : weeksE r = 0
  e8 : listE 0 23 r.l8 = 0
  e9 : listE 0 59 r.l9 = 0
  ex : listE 0 59 r.lx = 0
theorem check_ok {r : Ru} (h : checkE r = 0) : r.Ok := by
  have k := first_ok h
  unfold errsL at k
  exact ⟨k _ (by simp), k _ (by simp), k _ (by simp), k _ (by simp), k _ (by simp), k _ (by simp), k _ (by simp)⟩
theorem head_ok {r : Ru} (h : headE r = 0) : winB r.st = true ∧ unB r.fq = true := by
  unfold headE at h
  split at h
  · cases h
  · split at h
    · cases h
    · rename_i a b
      simp only [Bool.not_eq_false] at a b
      exact ⟨a, b⟩
theorem list_ok {lo hi : Int} {l : List Int} (h : listE lo hi l = 0) : l.length ≤ 64 ∧ ∀ x ∈ l, lo ≤ x ∧ x ≤ hi := by
  unfold listE at h
  split at h
  · cases h
  · split at h
    · cases h
    · rename_i a b
      refine ⟨by omega, fun x hx => ?_⟩
      rw [outB, List.any_eq_true] at b
      have : ¬ outP lo hi x = true := fun e => b ⟨x, hx, e⟩
      simp only [outP, Bool.or_eq_true, decide_eq_true_eq] at this
      omega
theorem weeks_ok {r : Ru} (h : weeksE r = 0) : r.l7.length ≤ 64 ∧ (∀ x ∈ r.l7, (-53 ≤ x.1 ∧ x.1 ≤ 53) ∧ 1 ≤ x.2 ∧ x.2 ≤ 7) ∧ mixB (nsL r) = false ∧ (outB 0 0 (nsL r) = true → r.fq = 5 ∨ r.fq = 6) ∧ (r.fq = 5 ∨ 0 < r.l5.length → outB (-5) 5 (nsL r) = false) := by
  unfold weeksE at h
  split at h
  · cases h
  · rename_i a
    unfold weeksK at h
    cases ho : outB (-53) 53 (nsL r) <;> cases hd : r.l7.any dayP <;> rw [ho, hd] at h <;> try (exact absurd (show (4 : Int) = 0 from h) (by decide))
    cases hm : mixB (nsL r) <;> rw [hm] at h <;> try (exact absurd (show (12 : Int) = 0 from h) (by decide))
    refine ⟨by omega, fun x hx => ⟨?_, ?_⟩, rfl, ?_, ?_⟩
    · have : ¬ outB (-53) 53 (nsL r) = true := by rw [ho]; simp
      rw [outB, List.any_eq_true] at this
      have : ¬ outP (-53) 53 x.1 = true := fun e => this ⟨x.1, List.mem_map_of_mem hx, e⟩
      simp only [outP, Bool.or_eq_true, decide_eq_true_eq] at this
      omega
    · have : ¬ r.l7.any dayP = true := by rw [hd]; simp
      rw [List.any_eq_true] at this
      have : ¬ dayP x = true := fun e => this ⟨x, hx, e⟩
      simp only [dayP, Bool.or_eq_true, decide_eq_true_eq] at this
      omega
    · intro hz
      rw [hz] at h
      by_cases h5 : r.fq = 5
      · exact .inl h5
      · by_cases h6 : r.fq = 6
        · exact .inr h6
        · rw [show (r.fq == 5) = false by simp [h5], show (r.fq == 6) = false by simp [h6]] at h
          simp at h
    · intro hc
      cases hq : outB (-5) 5 (nsL r)
      · rfl
      · rw [hq] at h
        have e : ((r.fq == 5) || decide (0 < r.l5.length)) = true := by
          rcases hc with hc | hc
          · rw [show (r.fq == 5) = true by simp [hc]]; rfl
          · rw [decide_eq_true hc, Bool.or_true]
        rw [e] at h
        cases hz : outB 0 0 (nsL r) <;> cases h5 : (r.fq == 5) <;> cases h6 : (r.fq == 6) <;> rw [hz, h5, h6] at h <;> simp at h

/-! ### ten cells -/
abbrev TenX (W : World) (b : Nat) (v0 v1 v2 v3 v4 v5 v6 v7 v8 v9 : Value) : Prop :=
  (W.cell? ⟨b, 0, none⟩ = some v0 ∧ W.cell? ⟨b, 1, none⟩ = some v1 ∧ W.cell? ⟨b, 2, none⟩ = some v2 ∧ W.cell? ⟨b, 3, none⟩ = some v3 ∧ W.cell? ⟨b, 4, none⟩ = some v4 ∧ W.cell? ⟨b, 5, none⟩ = some v5 ∧ W.cell? ⟨b, 6, none⟩ = some v6 ∧ W.cell? ⟨b, 7, none⟩ = some v7 ∧ W.cell? ⟨b, 8, none⟩ = some v8 ∧ W.cell? ⟨b, 9, none⟩ = some v9) ∧
  (W.frozen? ⟨b, 0, none⟩ = false ∧ W.frozen? ⟨b, 1, none⟩ = false ∧ W.frozen? ⟨b, 2, none⟩ = false ∧ W.frozen? ⟨b, 3, none⟩ = false ∧ W.frozen? ⟨b, 4, none⟩ = false ∧ W.frozen? ⟨b, 5, none⟩ = false ∧ W.frozen? ⟨b, 6, none⟩ = false ∧ W.frozen? ⟨b, 7, none⟩ = false ∧ W.frozen? ⟨b, 8, none⟩ = false ∧ W.frozen? ⟨b, 9, none⟩ = false)
theorem tenX_of {W : World} {b : Nat} {v0 v1 v2 v3 v4 v5 v6 v7 v8 v9 : Value} (h : W.rangeAt b 0 [v0, v1, v2, v3, v4, v5, v6, v7, v8, v9]) (ht : W.there b 0 10) : TenX W b v0 v1 v2 v3 v4 v5 v6 v7 v8 v9 := by
  have g : ∀ j v, [v0, v1, v2, v3, v4, v5, v6, v7, v8, v9][j]? = some v → W.cell? ⟨b, j, none⟩ = some v := fun j v e => by have := h j v e; rwa [Nat.zero_add] at this
  have k : ∀ j, j < 10 → W.frozen? ⟨b, j, none⟩ = false := fun j hj => by have := (ht j hj).2; rwa [Nat.zero_add] at this
  exact ⟨⟨g 0 _ rfl, g 1 _ rfl, g 2 _ rfl, g 3 _ rfl, g 4 _ rfl, g 5 _ rfl, g 6 _ rfl, g 7 _ rfl, g 8 _ rfl, g 9 _ rfl⟩, k 0 (by omega), k 1 (by omega), k 2 (by omega), k 3 (by omega), k 4 (by omega), k 5 (by omega), k 6 (by omega), k 7 (by omega), k 8 (by omega), k 9 (by omega)⟩
theorem ten_ix {j : Nat} (h : j < 10) : j = 0 ∨ j = 1 ∨ j = 2 ∨ j = 3 ∨ j = 4 ∨ j = 5 ∨ j = 6 ∨ j = 7 ∨ j = 8 ∨ j = 9 := by omega
theorem TenX.there {W : World} {b : Nat} {v0 v1 v2 v3 v4 v5 v6 v7 v8 v9 : Value} (h : TenX W b v0 v1 v2 v3 v4 v5 v6 v7 v8 v9) : W.there b 0 10 := fun j hj => by
  obtain ⟨⟨a0, a1, a2, a3, a4, a5, a6, a7, a8, a9⟩, f0, f1, f2, f3, f4, f5, f6, f7, f8, f9⟩ := h
  rw [Nat.zero_add]
  rcases ten_ix hj with rfl | rfl | rfl | rfl | rfl | rfl | rfl | rfl | rfl | rfl
  · exact ⟨by rw [a0]; rfl, f0⟩
  · exact ⟨by rw [a1]; rfl, f1⟩
  · exact ⟨by rw [a2]; rfl, f2⟩
  · exact ⟨by rw [a3]; rfl, f3⟩
  · exact ⟨by rw [a4]; rfl, f4⟩
  · exact ⟨by rw [a5]; rfl, f5⟩
  · exact ⟨by rw [a6]; rfl, f6⟩
  · exact ⟨by rw [a7]; rfl, f7⟩
  · exact ⟨by rw [a8]; rfl, f8⟩
  · exact ⟨by rw [a9]; rfl, f9⟩
theorem TenX.range {W : World} {b : Nat} {v0 v1 v2 v3 v4 v5 v6 v7 v8 v9 : Value} (h : TenX W b v0 v1 v2 v3 v4 v5 v6 v7 v8 v9) : W.rangeAt b 0 [v0, v1, v2, v3, v4, v5, v6, v7, v8, v9] := fun j v hv => by
  obtain ⟨⟨a0, a1, a2, a3, a4, a5, a6, a7, a8, a9⟩, -⟩ := h
  have hj : j < 10 := (List.getElem?_eq_some_iff.1 hv).1
  rw [Nat.zero_add]
  rcases ten_ix hj with rfl | rfl | rfl | rfl | rfl | rfl | rfl | rfl | rfl | rfl <;> (cases hv; assumption)
theorem TenX.below {W W' : World} {b B : Nat} {v0 v1 v2 v3 v4 v5 v6 v7 v8 v9 : Value} (h : TenX W b v0 v1 v2 v3 v4 v5 v6 v7 v8 v9) (hb : Below B W W') (hB : b < B) : TenX W' b v0 v1 v2 v3 v4 v5 v6 v7 v8 v9 :=
  tenX_of (fun j v hv => (hb.cell (p := ⟨b, 0 + j, none⟩) hB).trans (h.range j v hv)) (fun j hj => by
    obtain ⟨k1, k2⟩ := h.there j hj
    exact ⟨by rw [hb.cell (p := ⟨b, 0 + j, none⟩) hB]; exact k1, (hb.frozen (p := ⟨b, 0 + j, none⟩) hB).trans k2⟩)
theorem tenX_new (w : World) (v0 v1 v2 v3 v4 v5 v6 v7 v8 v9 : Value) (t : TypeId) : TenX (w.alloc (.cells #[v0, v1, v2, v3, v4, v5, v6, v7, v8, v9] t)) w.heap.size v0 v1 v2 v3 v4 v5 v6 v7 v8 v9 :=
  tenX_of (range_new w [v0, v1, v2, v3, v4, v5, v6, v7, v8, v9] t) (there_new w #[v0, v1, v2, v3, v4, v5, v6, v7, v8, v9] t)
abbrev putTen (W : World) (b : Nat) (v0 v1 v2 v3 v4 v5 v6 v7 v8 v9 : Value) : World :=
  (((((((((W.setCell ⟨b, 0, none⟩ v0).setCell ⟨b, 1, none⟩ v1).setCell ⟨b, 2, none⟩ v2).setCell ⟨b, 3, none⟩ v3).setCell ⟨b, 4, none⟩ v4).setCell ⟨b, 5, none⟩ v5).setCell ⟨b, 6, none⟩ v6).setCell ⟨b, 7, none⟩ v7).setCell ⟨b, 8, none⟩ v8).setCell ⟨b, 9, none⟩ v9
theorem tenX_put {W : World} {b : Nat} (h : W.there b 0 10) (v0 v1 v2 v3 v4 v5 v6 v7 v8 v9 : Value) : (putTen W b v0 v1 v2 v3 v4 v5 v6 v7 v8 v9).rangeAt b 0 [v0, v1, v2, v3, v4, v5, v6, v7, v8, v9] :=
  World.rangeAt_setCells_same W b 0 [v0, v1, v2, v3, v4, v5, v6, v7, v8, v9] h
theorem tenX_there {W : World} {b b' n : Nat} (h : W.there b 0 n) (v0 v1 v2 v3 v4 v5 v6 v7 v8 v9 : Value) : (putTen W b' v0 v1 v2 v3 v4 v5 v6 v7 v8 v9).there b 0 n :=
  World.there_setCells h b' 0 [v0, v1, v2, v3, v4, v5, v6, v7, v8, v9]
theorem tenX_below {B : Nat} {a W : World} {b : Nat} (h : Below B a W) (hb : B ≤ b) (v0 v1 v2 v3 v4 v5 v6 v7 v8 v9 : Value) : Below B a (putTen W b v0 v1 v2 v3 v4 v5 v6 v7 v8 v9) :=
  below_setCells hb [v0, v1, v2, v3, v4, v5, v6, v7, v8, v9] 0 W h
theorem infoOrd : (Try.prog.info? 25).map (·.size) = some 10 := by kernel_rfl
theorem results_cell_midR {P : Program} {fn : Func} {p t : Tmp} {ty : TypeId} (h : fn.results = #[.tmp t, .cell p ty]) (tmps : Array Value) (w : World) (b o : Nat) (cs : List Value) (d : TypeDesc)
    (hp : tmps.getD p undef = .pointer (some ⟨b, o, none⟩)) (hc : w.rangeAt b o cs) (hu : P.underlying ty = some d) (hd : d.isRow = true) (hi : (P.info? ty).map (·.size) = some cs.length) :
    (results fn tmps).run P w = .ok (.tuple #[tmps.getD t undef, .agg cs.toArray]) w := by
  have hp' : tmps[p]?.getD undef = .pointer (some ⟨b, o, none⟩) := by simpa using hp
  simp [results, h, hp', asAddr, run_loadVar_mid w b o ty cs d hc hu hd hi]

/-! ### the weekdays -/
def wkM (l : List (Int × Int)) : Nat := l.foldl (fun m x => m ||| ofM [x.2]) 0
def wkD (l : List (Int × Int)) (j : Nat) : Nat := l.foldl (fun m x => if x.2 = (j : Int) then m ||| ofM [max x.1 (-x.1)] else m) 0
end Go.Proofs.Ytndfckpcbiecnaa

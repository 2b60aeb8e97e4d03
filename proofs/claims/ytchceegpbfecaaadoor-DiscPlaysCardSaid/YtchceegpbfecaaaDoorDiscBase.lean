/-
  Discs: their words in a block; what the small functions of disc compute.
-/
import Derived.Test.YtchceegpbfecaaaDoorWideSets
namespace Go.Proofs.YtchceegpbfecaaaDoor
open Go.RowKit
set_option linter.unusedVariables false

theorem rep_one {α : Type} (v : α) : [v] = List.replicate 1 v := rfl
theorem rep_cons {α : Type} (v : α) (n : Nat) : v :: List.replicate n v = List.replicate (n + 1) v := rfl
theorem rep_app {α : Type} (v : α) (n m : Nat) : (List.replicate n v).append (List.replicate m v) = List.replicate (n + m) v := List.replicate_append_replicate
def zcells47 : Array Value := (List.replicate 86400 (Value.bool false)).toArray
def zcells46 : Array Value := (List.replicate 1350 (Value.int .u64 0)).toArray
def zcells44 : Array Value := (List.replicate 1350 (Value.int .u64 0)).toArray
set_option maxRecDepth 100000 in
theorem zval104z : Tryd.t47.zero = some (.agg (List.replicate 86400 (Value.bool false)).toArray) := by
  simp only [Tryd.t47, rep_one, rep_cons, rep_app, Nat.reduceAdd]
theorem zval104 (w : World) : (zeroValue 47).run Tryd.prog w = .ok (.agg zcells47) w := by
  simp only [zeroValue, Sem.run_bind, Tryd.typeInfo47, Result.andThen_ok, zval104z, Sem.run_pure]
  rfl
set_option maxRecDepth 100000 in
theorem zval107z : Tryd.t46.zero = some (.agg (List.replicate 1350 (Value.int .u64 0)).toArray) := by
  simp only [Tryd.t46, rep_one, rep_cons, rep_app, Nat.reduceAdd]
theorem zval107 (w : World) : (zeroValue 46).run Tryd.prog w = .ok (.agg zcells46) w := by
  simp only [zeroValue, Sem.run_bind, Tryd.typeInfo46, Result.andThen_ok, zval107z, Sem.run_pure]
  rfl
set_option maxRecDepth 100000 in
theorem zvalwz : Tryd.t44.zero = some (.agg (List.replicate 1350 (Value.int .u64 0)).toArray) := by
  simp only [Tryd.t44, rep_one, rep_cons, rep_app, Nat.reduceAdd]
theorem zvalw (w : World) : (zeroValue 44).run Tryd.prog w = .ok (.agg zcells44) w := by
  simp only [zeroValue, Sem.run_bind, Tryd.typeInfo44, Result.andThen_ok, zvalwz, Sem.run_pure]
  rfl
theorem zc104 : zcells47 = (List.replicate 86400 (Value.bool false)).toArray := rfl
theorem zc107 : zcells46 = (List.replicate 1350 (Value.int .u64 0)).toArray := rfl
theorem zcw : zcells44 = (List.replicate 1350 (Value.int .u64 0)).toArray := rfl
theorem zne104 : ¬ zcells47 = #[] := fun h => by
  have := congrArg Array.size (zc104.symm.trans h)
  rw [List.size_toArray, List.length_replicate] at this
  exact absurd this (by decide)
theorem zne107 : ¬ zcells46 = #[] := fun h => by
  have := congrArg Array.size (zc107.symm.trans h)
  rw [List.size_toArray, List.length_replicate] at this
  exact absurd this (by decide)
theorem znew : ¬ zcells44 = #[] := fun h => by
  have := congrArg Array.size (zcw.symm.trans h)
  rw [List.size_toArray, List.length_replicate] at this
  exact absurd this (by decide)

/-- a disc's words, in a block -/
def DC (W : World) (b : Nat) (f : Nat → Nat) : Prop := ∀ i, i < 1350 → W.cell? ⟨b, i, none⟩ = some (.int .u64 (f i : Nat))
theorem DC.below {W W' : World} {b B : Nat} {f : Nat → Nat} (h : DC W b f) (hb : Below B W W') (hB : b < B) : DC W' b f := fun i hi => (hb.cell (p := ⟨b, i, none⟩) hB).trans (h i hi)
theorem DC.set {W : World} {b i : Nat} {f : Nat → Nat} {v : Nat} (h : DC W b f) (hi : i < 1350) : DC (W.setCell ⟨b, i, none⟩ (.int .u64 v)) b (fun j => if j = i then v else f j) := by
  intro j hj
  by_cases e : j = i
  · subst e; simp [go_sem, h j hj]
  · simp [go_sem, h j hj, e]
theorem DC.congr {W : World} {b : Nat} {f g : Nat → Nat} (h : DC W b f) (e : ∀ i, i < 1350 → f i = g i) : DC W b g := fun i hi => by rw [← e i hi]; exact h i hi
theorem cell_rep (W : World) (n : Nat) (v : Value) (t : TypeId) (i : Nat) (hi : i < n) : (W.alloc (.cells (List.replicate n v).toArray t)).cell? ⟨W.heap.size, i, none⟩ = some v := by simp [go_sem, hi]
theorem dc_new (W : World) : DC (W.alloc (.cells zcells46 46)) W.heap.size (fun _ => 0) := fun i hi => by
  rw [zc107]
  exact cell_rep W 1350 _ _ i hi
def dsecB (n : Int) : Bool := decide (0 ≤ n) && decide (n < 86400)
theorem dsecB_nat (k : Nat) : dsecB (k : Int) = decide (k < 86400) := by rw [dsecB, Bool.eq_iff_iff]; simp only [Bool.and_eq_true, decide_eq_true_eq]; omega
theorem dsecB_some {n : Int} (h : dsecB n = true) : ∃ k : Nat, n = k ∧ k < 86400 := by
  rw [dsecB] at h
  simp only [Bool.and_eq_true, decide_eq_true_eq] at h
  exact ⟨n.toNat, by omega, by omega⟩
def hasD (f : Nat → Nat) (n : Int) : Bool := dsecB n && bitW f n.toNat
theorem DMay_any (n : Int) (w : World) : Calls Tryd.prog 18 #[.int .i64 n] w fun e w' => e = .returned (.bool (dsecB n)) ∧ w = w' := by
  unfold dsecB
  by_cases h0 : 0 ≤ n
  · by_cases h1 : n < 86400
    · rw [decide_eq_true h0, decide_eq_true h1]
      go_enter Tryd.func18, Tryd.ntmps18
      go_wp2
      go_ret
      exact ⟨rfl, rfl⟩
    · rw [decide_eq_true h0, decide_eq_false h1]
      go_enter Tryd.func18, Tryd.ntmps18
      go_wp2
      go_ret
      exact ⟨rfl, rfl⟩
  · rw [decide_eq_false h0, Bool.false_and]
    go_enter Tryd.func18, Tryd.ntmps18
    go_wp2
    go_ret
    exact ⟨rfl, rfl⟩

set_option maxHeartbeats 800000 in
theorem DHas_any (b : Nat) (f : Nat → Nat) (n : Int) (w : World) (hc : DC w b f) (hf : ∀ i, i < 1350 → f i < 18446744073709551616) :
    Calls Tryd.prog 14 #[.pointer (some ⟨b, 0, none⟩), .int .i64 n] w fun e w' => e = .returned (.bool (hasD f n)) ∧ w = w' := by
  have c1 := hid (fun W => DMay_any n W)
  unfold hasD
  by_cases hb : dsecB n = true
  · rw [hb] at c1 ⊢
    obtain ⟨k, rfl, hk⟩ := dsecB_some hb
    have e1 := hc (k / 64) (by omega)
    have c2 := hid (fun W => Has_any (f (k / 64)) ((k % 64 : Nat) : Int) W (hf _ (by omega)))
    rw [hasB_nat, show ((k % 64 : Nat) : Int) = (k : Int) % 64 by simp] at c2
    have hlt : k / 64 < 1350 := by omega
    clear hb hc hk
    go_enter Tryd.func14, Tryd.ntmps14
    go_wp2_with fail
    refine (c1.out _).mono ?_
    rintro e w' ⟨rfl, rfl⟩
    go_wp2_with fail
    refine (c2.out _).mono ?_
    rintro e w' ⟨rfl, rfl⟩
    go_wp2
    go_ret
    exact ⟨by simp [bitW], rfl⟩
  · have hb' : dsecB n = false := by simpa using hb
    rw [hb'] at c1 ⊢
    clear hb hb'
    go_enter Tryd.func14, Tryd.ntmps14
    go_wp2_with fail
    refine (c1.out _).mono ?_
    rintro e w' ⟨rfl, rfl⟩
    go_wp2
    go_ret
    exact ⟨rfl, rfl⟩
theorem DHas_nil (n : Int) (w : World) : Calls Tryd.prog 14 #[.pointer none, .int .i64 n] w fun e w' => e = .returned (.bool false) ∧ w = w' := by
  go_enter Tryd.func14, Tryd.ntmps14
  go_wp2
  go_ret
  exact ⟨rfl, rfl⟩

theorem Word_any (b : Nat) (f : Nat → Nat) (i : Nat) (w : World) (hc : DC w b f) (hi : i < 1350) :
    Calls Tryd.prog 30 #[.pointer (some ⟨b, 0, none⟩), .int .i64 i] w fun e w' => e = .returned (.int .u64 (f i : Nat)) ∧ w = w' := by
  have e1 := hc i hi
  clear hc
  go_enter Tryd.func30, Tryd.ntmps30
  go_wp2
  go_ret
  exact ⟨rfl, rfl⟩
theorem Word_nil (i : Nat) (w : World) : Calls Tryd.prog 30 #[.pointer none, .int .i64 i] w fun e w' => e = .returned (.int .u64 (0 : Nat)) ∧ w = w' := by
  go_enter Tryd.func30, Tryd.ntmps30
  go_wp2
  go_ret
  exact ⟨rfl, rfl⟩
end Go.Proofs.YtchceegpbfecaaaDoor

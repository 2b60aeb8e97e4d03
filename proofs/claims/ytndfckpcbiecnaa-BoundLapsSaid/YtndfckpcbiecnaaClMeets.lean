/-
  clause.both: what two clauses have together, but for their Ords and steps.
  clause.Meet.
  ferialaw13.meet: may clauses meet?
-/
import Derived.Test.YtndfckpcbiecnaaMeetLaws
import Derived.Test.YtndfckpcbiecnaaClHasFn
import Derived.Test.YtndfckpcbiecnaaOpenCls
import Derived.BigQuiet
import Derived.Test.YtndfckpcbiecnaaClRMay
namespace Go.Proofs.Ytndfckpcbiecnaa
open Go.RowKit
set_option linter.unusedVariables false

attribute [local go_sem ↓] loadAt_cl storeAt_cl
attribute [local go_sem] run_storeClS
def andCl (a b : Cl) : Cl := { a with m := fun i => a.m i &&& b.m i }
def ysCl (a : Cl) (y : Nat → Nat) : Cl := { a with ys := y }
theorem bothCl_eq (a b : Cl) : bothCl a b = withSpan (ysCl (andCl a b) (bothW [a.ys, b.ys])) (max a.fr b.fr) (min a.un b.un) := rfl
theorem ClB.setYs {W : World} {b : Nat} {c : Cl} (h : ClB W b c) (ht : W.there b 0 30) (y : Nat → Nat) : ClB (W.setCells b 18 (set7 y)) b (ysCl c y) := by
  intro j v hv
  have hj30 : j < 30 := (List.getElem?_eq_some_iff.1 hv).1
  by_cases hj : 18 ≤ j ∧ j < 25
  · have ht7 : W.there b 18 (set7 y).length := fun i hi => by
      have hi7 : i < 7 := hi
      have := ht (18 + i) (by omega)
      rwa [Nat.zero_add] at this
    have hr := World.rangeAt_setCells_same W b 18 (set7 y) ht7
    obtain ⟨k, hk⟩ : ∃ k, j = 18 + k := ⟨j - 18, by omega⟩
    have h7 : k = 0 ∨ k = 1 ∨ k = 2 ∨ k = 3 ∨ k = 4 ∨ k = 5 ∨ k = 6 := by omega
    rw [Nat.zero_add, hk]
    refine hr k v ?_
    rw [hk] at hv
    rcases h7 with rfl | rfl | rfl | rfl | rfl | rfl | rfl <;> exact hv
  · rw [World.cell?_setCells_out _ _ _ _ _ (fun _ _ => by show 0 + j < 18 ∨ 18 + 7 ≤ 0 + j; omega)]
    refine h j v ?_
    have hc : j = 0 ∨ j = 1 ∨ j = 2 ∨ j = 3 ∨ j = 4 ∨ j = 5 ∨ j = 6 ∨ j = 7 ∨ j = 8 ∨ j = 9 ∨ j = 10 ∨ j = 11 ∨ j = 12 ∨ j = 13 ∨ j = 14 ∨ j = 15 ∨ j = 16 ∨ j = 17 ∨ j = 25 ∨ j = 26 ∨ j = 27 ∨ j = 28 ∨ j = 29 := by omega
    rcases hc with rfl | rfl | rfl | rfl | rfl | rfl | rfl | rfl | rfl | rfl | rfl | rfl | rfl | rfl | rfl | rfl | rfl | rfl | rfl | rfl | rfl | rfl | rfl <;> exact hv
abbrev bW (w : World) (a b : Cl) : World := ((w.alloc (.cells (clList a).toArray 28)).alloc (.cells (clList b).toArray 28)).alloc (.cells zL.toArray 28)
set_option maxRecDepth 100000 in
set_option maxHeartbeats 3200000 in
theorem CBoth_any (a b : Cl) (w : World) (ha : a.Ok) (hb : b.Ok) : Calls Try.prog 110 #[clv a, clv b] w fun e w' => e = .returned (clv (bothCl a b)) ∧ Below w.heap.size w w' := by
  have hA : ClB (bW w a b) w.heap.size a := (clB_new2 w a _ _).below (below_new (Below.refl _ _) (Nat.le_refl _)) (by simp only [World.size_alloc]; omega)
  have hB : ClB (bW w a b) (w.heap.size + 1) b := by
    have h2 := clB_new (w.alloc (.cells (clList a).toArray 28)) b 28
    rw [World.size_alloc] at h2
    exact h2.below (below_new (Below.refl _ _) (Nat.le_refl _)) (by simp only [World.size_alloc]; omega)
  have cW := hid (fun (sa : Option Addr) cap W hs => WBoth_any sa cap [a.ys, b.ys] W (by simp) hs (by simp only [List.mem_cons, List.not_mem_nil, or_false]; rintro s (rfl | rfl); exact ha.ys; exact hb.ys))
  obtain ⟨y, hy⟩ : ∃ y, bothW [a.ys, b.ys] = y := ⟨_, rfl⟩
  rw [bothCl_eq, hy]
  rw [hy] at cW
  clear hy
  obtain ⟨r0, r1, r2, r3, r4, r5, r6⟩ := hA.masks
  obtain ⟨s0, s1, s2, s3, s4, s5, s6⟩ := hB.masks
  obtain ⟨y0, y1, y2, y3, y4, y5, y6⟩ := hA.years
  obtain ⟨z0, z1, z2, z3, z4, z5, z6⟩ := hB.years
  go_enter Try.func110, Try.ntmps110
  go_wp2_with fail
  have hm := ha.m
  have hn := hb.m
  rw [bits_and (hm 0 (by omega)) (hn 0 (by omega)), bits_and (hm 1 (by omega)) (hn 1 (by omega)), bits_and (hm 2 (by omega)) (hn 2 (by omega)), bits_and (hm 3 (by omega)) (hn 3 (by omega)), bits_and (hm 4 (by omega)) (hn 4 (by omega)), bits_and (hm 5 (by omega)) (hn 5 (by omega)), bits_and (hm 6 (by omega)) (hn 6 (by omega))]
  clear r0 r1 r2 r3 r4 r5 r6 s0 s1 s2 s3 s4 s5 s6 y0 y1 y2 y3 y4 y5 y6 z0 z1 z2 z3 z4 z5 z6 hm hn hA hB
  obtain ⟨W3, hW3⟩ : ∃ W3, bW w (andCl a b) b = W3 := ⟨_, rfl⟩
  have hA3 : ClB W3 w.heap.size (andCl a b) := by
    rw [← hW3]
    exact (clB_new2 w (andCl a b) _ _).below (below_new (Below.refl _ _) (Nat.le_refl _)) (by simp only [World.size_alloc]; omega)
  have hB3 : ClB W3 (w.heap.size + 1) b := by
    have h2 := clB_new (w.alloc (.cells (clList (andCl a b)).toArray 28)) b 28
    rw [World.size_alloc] at h2
    rw [← hW3]
    exact h2.below (below_new (Below.refl _ _) (Nat.le_refl _)) (by simp only [World.size_alloc]; omega)
  have tA3 : W3.there w.heap.size 0 30 := by
    rw [← hW3]
    have h := there_new w (clList (andCl a b)).toArray 28
    rw [show (clList (andCl a b)).toArray.size = 30 from rfl] at h
    exact there_below (there_below h (below_new (Below.refl _ _) (Nat.le_refl _)) (by simp)) (below_new (Below.refl _ _) (Nat.le_refl _)) (by simp only [World.size_alloc]; omega)
  have tZ3 : W3.there (w.heap.size + 1 + 1) 0 30 := by
    rw [← hW3]
    have h := there_new ((w.alloc (.cells (clList (andCl a b)).toArray 28)).alloc (.cells (clList b).toArray 28)) zL.toArray 28
    rw [World.size_alloc, World.size_alloc, show zL.toArray.size = 30 from rfl] at h
    exact h
  have s3 : W3.heap.size = w.heap.size + 1 + 1 + 1 := by rw [← hW3]; simp only [World.size_alloc]
  have b3 : Below w.heap.size w W3 := by
    rw [← hW3]
    exact below_new (below_new (below_new (Below.refl _ _) (Nat.le_refl _)) (by simp)) (by simp only [World.size_alloc]; omega)
  have hYs : Sl (W3.alloc (.cells (sets [a.ys, b.ys]).toArray 26)) (some ⟨w.heap.size + 1 + 1 + 1, 0, none⟩) (sets [a.ys, b.ys]) := by
    have h := range_new W3 (sets [a.ys, b.ys]) 26
    rw [s3] at h
    exact sl_range h (by rw [World.size_alloc, s3]; omega)
  have cC := cW.out _ 2 _ hYs
  rw [← hW3] at cC
  refine cC.mono ?_
  rintro e w4 ⟨rfl, hB4⟩
  rw [hW3] at hB4
  have hs4 : W3.heap.size + 1 ≤ w4.heap.size := by have := hB4.size; rwa [World.size_alloc] at this
  have hbb : Below W3.heap.size W3 w4 := (below_new (Below.refl _ _) (Nat.le_refl _)).trans (hB4.mono (by rw [World.size_alloc]; omega))
  have hA4 := hA3.below hbb (by omega)
  have hB4' := hB3.below hbb (by omega)
  have tA4 := there_below tA3 hbb (by omega)
  have tZ4 := there_below tZ3 hbb (by omega)
  have b4 : Below w.heap.size w w4 := b3.trans (hbb.mono (by omega))
  have hA5 := hA4.setYs tA4 y
  have tA5 : (w4.setCells w.heap.size 18 (set7 y)).there w.heap.size 0 30 := World.there_setCells tA4 _ _ _
  have tZ5 : (w4.setCells w.heap.size 18 (set7 y)).there (w.heap.size + 1 + 1) 0 30 := World.there_setCells tZ4 _ _ _
  have hB5 : ClB (w4.setCells w.heap.size 18 (set7 y)) (w.heap.size + 1) b := fun j v hv => by
    rw [World.cell?_setCells_out _ _ _ _ _ (fun e => absurd e (by show ¬ (w.heap.size + 1 = w.heap.size); omega))]
    exact hB4' j v hv
  obtain ⟨W5, hW5⟩ : ∃ W5, w4.setCells w.heap.size 18 (set7 y) = W5 := ⟨_, rfl⟩
  have HW5 : Hid ((((((((w4.setCell ⟨w.heap.size, 18, none⟩ (.int .u64 (y 0 : Nat))).setCell ⟨w.heap.size, 19, none⟩ (.int .u64 (y 1 : Nat))).setCell ⟨w.heap.size, 20, none⟩ (.int .u64 (y 2 : Nat))).setCell ⟨w.heap.size, 21, none⟩ (.int .u64 (y 3 : Nat))).setCell ⟨w.heap.size, 22, none⟩ (.int .u64 (y 4 : Nat))).setCell ⟨w.heap.size, 23, none⟩ (.int .u64 (y 5 : Nat))).setCell ⟨w.heap.size, 24, none⟩ (.int .u64 (y 6 : Nat))) = W5) := hW5
  obtain ⟨k0, k1, k2, k3, k4, k5, k6⟩ := hA4.years
  have f18 : w4.frozen? ⟨w.heap.size, 18, none⟩ = false := by simpa using (tA4 18 (by omega)).2
  have f19 : w4.frozen? ⟨w.heap.size, 19, none⟩ = false := by simpa using (tA4 19 (by omega)).2
  have f20 : w4.frozen? ⟨w.heap.size, 20, none⟩ = false := by simpa using (tA4 20 (by omega)).2
  have f21 : w4.frozen? ⟨w.heap.size, 21, none⟩ = false := by simpa using (tA4 21 (by omega)).2
  have f22 : w4.frozen? ⟨w.heap.size, 22, none⟩ = false := by simpa using (tA4 22 (by omega)).2
  have f23 : w4.frozen? ⟨w.heap.size, 23, none⟩ = false := by simpa using (tA4 23 (by omega)).2
  have f24 : w4.frozen? ⟨w.heap.size, 24, none⟩ = false := by simpa using (tA4 24 (by omega)).2
  have HB4 := hid b4
  clear hbb hB4 hA3 hB3 tA3 tZ3 b3 hA4 hB4' tA4 tZ4 b4 hYs cC hW3
  go_wp2_with fail
  rw [HW5.out]
  rw [hW5] at hA5 hB5 tA5 tZ5
  have B5 : Hid (Below w.heap.size w W5) := by rw [← hW5]; exact below_setCells (Nat.le_refl _) _ _ _ HB4.out
  have HA5 := hid hA5
  have HT5 := hid tZ5
  have HTA := hid tA5
  obtain ⟨-, -, -, t3, t4⟩ := hA5.tail
  obtain ⟨-, -, -, u3, u4⟩ := hB5.tail
  have f28 : W5.frozen? ⟨w.heap.size, 28, none⟩ = false := by simpa using (tA5 28 (by omega)).2
  have f29 : W5.frozen? ⟨w.heap.size, 29, none⟩ = false := by simpa using (tA5 29 (by omega)).2
  have t3' : W5.cell? ⟨w.heap.size, 28, none⟩ = some (.int .i64 a.fr) := t3
  have t4' : W5.cell? ⟨w.heap.size, 29, none⟩ = some (.int .i64 a.un) := t4
  clear hA5 hB5 tA5 tZ5 hW5 t3 t4 k0 k1 k2 k3 k4 k5 k6 f18 f19 f20 f21 f22 f23 f24
  rcases Int.lt_or_le a.fr b.fr with h1 | h1 <;> rcases Int.lt_or_le b.un a.un with h2 | h2
  all_goals go_region
  · have hX := (HA5.out.span b.fr b.un).below (Below.refl (w.heap.size + 1) _).drew (by omega)
    have l0 := hX.ld
    have ht : ((W5.setCell ⟨w.heap.size, 28, none⟩ (.int .i64 b.fr)).setCell ⟨w.heap.size, 29, none⟩ (.int .i64 b.un)).drew.there (w.heap.size + 1 + 1) 0 30 := there_below (World.there_setCells (World.there_setCells HT5.out w.heap.size 28 [.int .i64 b.fr]) w.heap.size 29 [.int .i64 b.un]) (Below.refl (w.heap.size + 1 + 1 + 1) _).drew (by omega)
    have hbX : Hid (Below w.heap.size w ((W5.setCell ⟨w.heap.size, 28, none⟩ (.int .i64 b.fr)).setCell ⟨w.heap.size, 29, none⟩ (.int .i64 b.un)).drew) := (below_set (below_set B5.out (Nat.le_refl _)) (Nat.le_refl _)).drew
    clear hX
    go_wp2
    exact bodyPost_ret (results_cell_mid rfl _ _ (w.heap.size + 1 + 1) 0 _ _ rfl (putCl_range _ rfl ht) Try.underlying28 rfl infoCl) rfl ⟨by rw [show max a.fr b.fr = b.fr by omega, show min a.un b.un = b.un by omega], putCl_below hbX.out (by omega) _⟩
  · have hX := (HA5.out.span b.fr a.un).below (Below.refl (w.heap.size + 1) _).drew (by omega)
    have l0 := hX.ld
    have ht : ((W5.setCell ⟨w.heap.size, 28, none⟩ (.int .i64 b.fr)).setCell ⟨w.heap.size, 29, none⟩ (.int .i64 a.un)).drew.there (w.heap.size + 1 + 1) 0 30 := there_below (World.there_setCells (World.there_setCells HT5.out w.heap.size 28 [.int .i64 b.fr]) w.heap.size 29 [.int .i64 a.un]) (Below.refl (w.heap.size + 1 + 1 + 1) _).drew (by omega)
    have hbX : Hid (Below w.heap.size w ((W5.setCell ⟨w.heap.size, 28, none⟩ (.int .i64 b.fr)).setCell ⟨w.heap.size, 29, none⟩ (.int .i64 a.un)).drew) := (below_set (below_set B5.out (Nat.le_refl _)) (Nat.le_refl _)).drew
    clear hX
    go_wp2
    exact bodyPost_ret (results_cell_mid rfl _ _ (w.heap.size + 1 + 1) 0 _ _ rfl (putCl_range _ rfl ht) Try.underlying28 rfl infoCl) rfl ⟨by rw [show max a.fr b.fr = b.fr by omega, show min a.un b.un = a.un by omega], putCl_below hbX.out (by omega) _⟩
  · have hX := (HA5.out.span a.fr b.un).below (Below.refl (w.heap.size + 1) _).drew (by omega)
    have l0 := hX.ld
    have ht : ((W5.setCell ⟨w.heap.size, 28, none⟩ (.int .i64 a.fr)).setCell ⟨w.heap.size, 29, none⟩ (.int .i64 b.un)).drew.there (w.heap.size + 1 + 1) 0 30 := there_below (World.there_setCells (World.there_setCells HT5.out w.heap.size 28 [.int .i64 a.fr]) w.heap.size 29 [.int .i64 b.un]) (Below.refl (w.heap.size + 1 + 1 + 1) _).drew (by omega)
    have hbX : Hid (Below w.heap.size w ((W5.setCell ⟨w.heap.size, 28, none⟩ (.int .i64 a.fr)).setCell ⟨w.heap.size, 29, none⟩ (.int .i64 b.un)).drew) := (below_set (below_set B5.out (Nat.le_refl _)) (Nat.le_refl _)).drew
    clear hX
    go_wp2
    exact bodyPost_ret (results_cell_mid rfl _ _ (w.heap.size + 1 + 1) 0 _ _ rfl (putCl_range _ rfl ht) Try.underlying28 rfl infoCl) rfl ⟨by rw [show max a.fr b.fr = a.fr by omega, show min a.un b.un = b.un by omega], putCl_below hbX.out (by omega) _⟩
  · have hX := (HA5.out.span a.fr a.un).below (Below.refl (w.heap.size + 1) _).drew (by omega)
    have l0 := hX.ld
    have ht : ((W5.setCell ⟨w.heap.size, 28, none⟩ (.int .i64 a.fr)).setCell ⟨w.heap.size, 29, none⟩ (.int .i64 a.un)).drew.there (w.heap.size + 1 + 1) 0 30 := there_below (World.there_setCells (World.there_setCells HT5.out w.heap.size 28 [.int .i64 a.fr]) w.heap.size 29 [.int .i64 a.un]) (Below.refl (w.heap.size + 1 + 1 + 1) _).drew (by omega)
    have hbX : Hid (Below w.heap.size w ((W5.setCell ⟨w.heap.size, 28, none⟩ (.int .i64 a.fr)).setCell ⟨w.heap.size, 29, none⟩ (.int .i64 a.un)).drew) := (below_set (below_set B5.out (Nat.le_refl _)) (Nat.le_refl _)).drew
    clear hX
    go_wp2
    exact bodyPost_ret (results_cell_mid rfl _ _ (w.heap.size + 1 + 1) 0 _ _ rfl (putCl_range _ rfl ht) Try.underlying28 rfl infoCl) rfl ⟨by rw [show max a.fr b.fr = a.fr by omega, show min a.un b.un = a.un by omega], putCl_below hbX.out (by omega) _⟩
end Go.Proofs.Ytndfckpcbiecnaa
namespace Go.Proofs.Ytndfckpcbiecnaa
open Go.RowKit
set_option linter.unusedVariables false

attribute [local go_sem ↓] loadAt_cl storeAt_cl
attribute [local go_sem] run_storeClS
/-- the comparison of two Ords, kept whole in a walk -/
def neqOrdS (a b : Value) : Sem Value := binOp .neq 25 a b
theorem neq_ordS (a b : Value) : binOp .neq 25 a b = neqOrdS a b := rfl
attribute [local go_sem ↓] neq_ordS
theorem neqOrd_run (c : Cl) (h : c.Ok) (W : World) : (neqOrdS (ordv c.oin c.oback c.od) (.agg #[.int .i64 0, .bool false, .int .u64 0, .int .u64 0, .int .u64 0, .int .u64 0, .int .u64 0, .int .u64 0, .int .u64 0, .int .u64 0])).run Try.prog W = .ok (.bool (hasOrd c)) W :=
  neq_ord c.oin c.oback c.od 0 false (fun _ => 0) W h.oin h.od ⟨by decide, by decide⟩ (fun i _ => by show 0 < _; decide)
theorem cls_get (l : List Cl) : ∀ (k : Nat) (hk : k < l.length) (i : Nat) (hi : i < 30), (cls l)[k * 30 + i]? = (clList l[k])[i]? := by
  induction l with
  | nil => intro k hk; simp at hk
  | cons c l ih =>
    intro k hk i hi
    rw [show cls (c :: l) = clList c ++ cls l by simp [cls]]
    cases k with
    | zero =>
      rw [Nat.zero_mul, Nat.zero_add, List.getElem?_append_left (by exact hi)]
      rfl
    | succ k =>
      rw [List.getElem?_append_right (by show 30 ≤ _; omega), show (k + 1) * 30 + i - (clList c).length = k * 30 + i by show (k + 1) * 30 + i - 30 = _; omega, ih k (by simp at hk; omega) i hi]
      rfl
theorem Sl.atCl {w : World} {a : Option Addr} {l : List Cl} (h : Sl w a (cls l)) {k : Nat} (hk : k < l.length) :
    ∃ b off, a = some ⟨b, off, none⟩ ∧ b < w.heap.size ∧ w.rangeAt b (off + k * 30) (clList l[k]) := by
  obtain ⟨b, off, rfl, hlt, hc⟩ := Sl.at h (k := k * 30) (by rw [cls_length]; omega)
  refine ⟨b, off, rfl, hlt, fun j v hv => ?_⟩
  have hj : j < 30 := (List.getElem?_eq_some_iff.1 hv).1
  rw [← cls_get l k hk j hj] at hv
  obtain ⟨h1, h2⟩ := List.getElem?_eq_some_iff.1 hv
  rw [Nat.add_assoc, hc _ h1, h2]
theorem ld_at {W : World} {b o : Nat} {c : Cl} (h : W.rangeAt b o (clList c)) : (loadClS (.pointer (some ⟨b, o, none⟩))).run Try.prog W = .ok (clv c) W :=
  run_loadAt_mid W b o 28 (clList c) _ h Try.underlying28 rfl infoCl
theorem range_below {W W' : World} {b o B : Nat} {cs : List Value} (h : W.rangeAt b o cs) (hb : Below B W W') (hB : b < B) : W'.rangeAt b o cs := fun j v hv => (hb.cell (p := ⟨b, o + j, none⟩) hB).trans (h j v hv)
abbrev ord10 (c : Cl) : List Value := [.int .i64 c.oin, .bool c.oback, .int .u64 (c.od 0 : Nat), .int .u64 (c.od 1 : Nat), .int .u64 (c.od 2 : Nat), .int .u64 (c.od 3 : Nat), .int .u64 (c.od 4 : Nat), .int .u64 (c.od 5 : Nat), .int .u64 (c.od 6 : Nat), .int .u64 (c.od 7 : Nat)]
theorem ClB.setOrd {W : World} {b : Nat} {o : Cl} (h : ClB W b o) (ht : W.there b 0 30) (c : Cl) : ClB (W.setCells b 8 (ord10 c)) b (ordCl o c) := by
  intro j v hv
  have hj30 : j < 30 := (List.getElem?_eq_some_iff.1 hv).1
  by_cases hj : 8 ≤ j ∧ j < 18
  · have ht7 : W.there b 8 (ord10 c).length := fun i hi => by
      have hi7 : i < 10 := hi
      have := ht (8 + i) (by omega)
      rwa [Nat.zero_add] at this
    have hr := World.rangeAt_setCells_same W b 8 (ord10 c) ht7
    obtain ⟨k, hk⟩ : ∃ k, j = 8 + k := ⟨j - 8, by omega⟩
    have h7 : k = 0 ∨ k = 1 ∨ k = 2 ∨ k = 3 ∨ k = 4 ∨ k = 5 ∨ k = 6 ∨ k = 7 ∨ k = 8 ∨ k = 9 := by omega
    rw [Nat.zero_add, hk]
    refine hr k v ?_
    rw [hk] at hv
    rcases h7 with rfl | rfl | rfl | rfl | rfl | rfl | rfl | rfl | rfl | rfl <;> exact hv
  · rw [World.cell?_setCells_out _ _ _ _ _ (fun _ _ => by show 0 + j < 8 ∨ 8 + 10 ≤ 0 + j; omega)]
    refine h j v ?_
    have hc : j = 0 ∨ j = 1 ∨ j = 2 ∨ j = 3 ∨ j = 4 ∨ j = 5 ∨ j = 6 ∨ j = 7 ∨ j = 18 ∨ j = 19 ∨ j = 20 ∨ j = 21 ∨ j = 22 ∨ j = 23 ∨ j = 24 ∨ j = 25 ∨ j = 26 ∨ j = 27 ∨ j = 28 ∨ j = 29 := by omega
    rcases hc with rfl | rfl | rfl | rfl | rfl | rfl | rfl | rfl | rfl | rfl | rfl | rfl | rfl | rfl | rfl | rfl | rfl | rfl | rfl | rfl <;> exact hv
abbrev unit3 (c : Cl) : List Value := [.int .i64 c.unit, .int .i64 c.step, .int .i64 c.anchor]
theorem ClB.setUnit {W : World} {b : Nat} {o : Cl} (h : ClB W b o) (ht : W.there b 0 30) (c : Cl) : ClB (W.setCells b 25 (unit3 c)) b (unitCl o c) := by
  intro j v hv
  have hj30 : j < 30 := (List.getElem?_eq_some_iff.1 hv).1
  by_cases hj : 25 ≤ j ∧ j < 28
  · have ht7 : W.there b 25 (unit3 c).length := fun i hi => by
      have hi7 : i < 3 := hi
      have := ht (25 + i) (by omega)
      rwa [Nat.zero_add] at this
    have hr := World.rangeAt_setCells_same W b 25 (unit3 c) ht7
    obtain ⟨k, hk⟩ : ∃ k, j = 25 + k := ⟨j - 25, by omega⟩
    have h7 : k = 0 ∨ k = 1 ∨ k = 2 := by omega
    rw [Nat.zero_add, hk]
    refine hr k v ?_
    rw [hk] at hv
    rcases h7 with rfl | rfl | rfl <;> exact hv
  · rw [World.cell?_setCells_out _ _ _ _ _ (fun _ _ => by show 0 + j < 25 ∨ 25 + 3 ≤ 0 + j; omega)]
    refine h j v ?_
    have hc : j = 0 ∨ j = 1 ∨ j = 2 ∨ j = 3 ∨ j = 4 ∨ j = 5 ∨ j = 6 ∨ j = 7 ∨ j = 8 ∨ j = 9 ∨ j = 10 ∨ j = 11 ∨ j = 12 ∨ j = 13 ∨ j = 14 ∨ j = 15 ∨ j = 16 ∨ j = 17 ∨ j = 18 ∨ j = 19 ∨ j = 20 ∨ j = 21 ∨ j = 22 ∨ j = 23 ∨ j = 24 ∨ j = 28 ∨ j = 29 := by omega
    rcases hc with rfl | rfl | rfl | rfl | rfl | rfl | rfl | rfl | rfl | rfl | rfl | rfl | rfl | rfl | rfl | rfl | rfl | rfl | rfl | rfl | rfl | rfl | rfl | rfl | rfl | rfl | rfl <;> exact hv
/-- the clause that Meet lays, its own block, the result's block -/
structure MtS (w : World) (b4 : Nat) (o : Cl) (W : World) : Prop where
  cl : ClB W b4 o
  th : W.there b4 0 30
  tr : W.there w.heap.size 0 30
  be : Below w.heap.size w W
  l4 : b4 < W.heap.size
  l0 : w.heap.size < b4
theorem MtS.keep {w W W' : World} {b4 : Nat} {o : Cl} (h : MtS w b4 o W) (hb : Below W.heap.size W W') : MtS w b4 o W' :=
  ⟨h.cl.below hb h.l4, there_below h.th hb h.l4, there_below h.tr hb (Nat.lt_trans h.l0 h.l4), h.be.trans (hb.mono (Nat.le_of_lt (Nat.lt_trans h.l0 h.l4))), Nat.lt_of_lt_of_le h.l4 hb.size, h.l0⟩
theorem size_setCells (b : Nat) : ∀ (vs : List Value) (o : Nat) (W : World), (W.setCells b o vs).heap.size = W.heap.size
  | [], _, _ => rfl
  | v :: vs, o, W => by rw [World.setCells, size_setCells b vs (o + 1), World.size_setCell]
theorem MtS.put {w W : World} {b4 : Nat} {o : Cl} (h : MtS w b4 o W) {o' : Cl} {k : Nat} {vs : List Value} (hc : ClB (W.setCells b4 k vs) b4 o') : MtS w b4 o' (W.setCells b4 k vs) :=
  ⟨hc, World.there_setCells h.th _ _ _, World.there_setCells h.tr _ _ _, below_setCells (Nat.le_of_lt h.l0) _ _ _ h.be, by rw [size_setCells]; exact h.l4, h.l0⟩
theorem there_fz {W : World} {b : Nat} (h : W.there b 0 30) (j : Nat) (hj : j < 30) : W.frozen? ⟨b, j, none⟩ = false := by
  have := (h j hj).2
  rwa [Nat.zero_add] at this
theorem clB_other {W : World} {b b4 k : Nat} {c : Cl} {vs : List Value} (h : ClB W b c) (hne : b ≠ b4) : ClB (W.setCells b4 k vs) b c := fun j v hv => by
  rw [World.cell?_setCells_out _ _ _ _ _ (fun e => absurd e hne)]
  exact h j v hv
theorem putCl_eq (W : World) (b : Nat) (cs : List Value) : putCl W b cs = W.setCells b 0 cs := rfl
def zeroCl : Cl := { m := fun _ => 0, or := false, oin := 0, oback := false, od := fun _ => 0, ys := fun _ => 0, unit := 0, step := 0, anchor := 0, fr := 0, un := 0 }
def meetV (l : List Cl) : Cl × Bool := match meetK l with | some o => (o, true) | none => (zeroCl, false)
def intOfM : Value → Int | .int _ n => n | _ => 0
set_option maxRecDepth 100000 in
set_option maxHeartbeats 12800000 in
theorem CMeet_any (a : Option Addr) (cap : Nat) (l : List Cl) (w : World) (hl : l.length ≤ 9223372036854775807) (hs : Sl w a (cls l)) (hok : ∀ c ∈ l, c.Ok) :
    Calls Try.prog 44 #[.slice a l.length cap] w fun e w' => e = .returned (.tuple #[clv (meetV l).1, .bool (meetV l).2]) ∧ Below w.heap.size w w' := by
  have cF := hid (fun W => Full_any W)
  have Hs := hid hs
  have Hok := hid hok
  have hinv := hid (meet_inv l hok)
  have Hl := hid hl
  have hnil := hid minv_nil
  have hmK0 : Hid (meetK (l.take 0) = some fullCl) := rfl
  obtain ⟨F, hF⟩ : ∃ F, fullCl = F := ⟨_, rfl⟩
  rw [hF] at cF hnil hmK0
  clear hF hs hok
  have hth0 := there_new w zL.toArray 28
  rw [show zL.toArray.size = 30 from rfl] at hth0
  have Hth0 := hid hth0
  clear hth0
  go_enter Try.func44, Try.ntmps44
  go_wp2_with fail
  refine (cF.out _).mono ?_
  rintro e w1 ⟨rfl, hB1⟩
  have hs1 : w.heap.size < w1.heap.size := by have := hB1.size; rw [World.size_alloc] at this; exact this
  have hth1 := there_below Hth0.out hB1 (by simp)
  have hB1' : Below w.heap.size w w1 := (below_new (Below.refl _ _) (Nat.le_refl _)).trans (hB1.mono (by simp))
  have hth : (w1.alloc (.cells zL.toArray 28)).there w1.heap.size 0 30 := there_new w1 _ _
  have hn1 := below_new (o := .cells zL.toArray 28) (Below.refl w1.heap.size w1) (Nat.le_refl _)
  have HM1 : Hid (MtS w w1.heap.size F (putCl (w1.alloc (.cells zL.toArray 28)) w1.heap.size (clList F))) :=
    ⟨putCl_range _ rfl hth, World.there_setCells hth _ _ _, World.there_setCells (there_below hth1 hn1 hs1) _ _ _, putCl_below (hB1'.trans (hn1.mono (by omega))) (by omega) _, by rw [putCl_eq, size_setCells, World.size_alloc]; omega, hs1⟩
  clear hB1 hth1 hB1' hn1 hs1
  go_wp2
  clear hth
  go_loopw [12] (fun i wr => ∃ (k : Nat) (o : Cl), i = .int .i64 k ∧ k ≤ l.length ∧ Hid (meetK (l.take k) = some o) ∧ Hid (MInv (l.take k) o) ∧ Hid (MtS w w1.heap.size o wr)) (fun i _ => l.length - (intOfM i).toNat)
  case atStart => exact ⟨0, F, rfl, by omega, hmK0.out, hnil.out, HM1.out⟩
  case round =>
    obtain ⟨k, o, rfl, hk, hmK, hMI, HM⟩ := hrel
    by_cases hlt : k < l.length
    · obtain ⟨b, off, rfl, hbk, hr⟩ := Hs.out.atCl hlt
      have hr' := range_below hr HM.out.be hbk
      have hcOk := hid (Hok.out _ (List.getElem_mem hlt))
      have hstep := hid (hinv.out (k + 1) (by omega))
      rw [take_snoc l k hlt] at hstep
      have htk := hid (take_snoc l k hlt)
      have hnone := hid (fun h => meetK_take (l := l) (k := k + 1) (by omega) h)
      rw [take_snoc l k hlt] at hnone
      obtain ⟨c, hc⟩ : ∃ c, l[k] = c := ⟨_, rfl⟩
      rw [hc] at hr' hcOk hstep hnone htk
      clear hc hr
      have le := ld_at hr'
      have hth2 : (wr.alloc (.cells zL.toArray 28)).there wr.heap.size 0 30 := there_new wr _ _
      have hn2 := below_new (o := .cells zL.toArray 28) (Below.refl wr.heap.size wr) (Nat.le_refl _)
      obtain ⟨W1, hW1⟩ : ∃ W1, putCl (wr.alloc (.cells zL.toArray 28)) wr.heap.size (clList c) = W1 := ⟨_, rfl⟩
      have hC1 : ClB W1 wr.heap.size c := by rw [← hW1]; exact putCl_range _ rfl hth2
      have hb1 : Below wr.heap.size wr W1 := by rw [← hW1]; exact putCl_below hn2 (Nat.le_refl _) _
      have hs1 : wr.heap.size + 1 ≤ W1.heap.size := by rw [← hW1, putCl_eq, size_setCells, World.size_alloc]; omega
      have HW1 := hid hW1
      have HC1 := hid hC1
      have HM1 := hid (HM.out.keep hb1)
      have Hs1 := hid hs1
      clear hW1 hn2 hb1 hs1 hC1
      go_wp2_with fail
      rw [HW1.out]
      clear le hth2 hr'
      obtain ⟨o0, o1, o2, o3, o4, o5, o6, o7, o8, o9⟩ := HC1.out.ord
      obtain ⟨-, t1, -, -, -⟩ := HC1.out.tail
      have hne := neqOrd_run c hcOk.out
      go_quiet (fail)
      clear o0 o1 o2 o3 o4 o5 o6 o7 o8 o9 t1 hne
      have HC2 := hid (HC1.out.below (below_drewN (Below.refl (wr.heap.size + 1) W1) nq) (by omega))
      have HM2 := hid (HM1.out.keep (below_drewN (Below.refl W1.heap.size W1) nq))
      have Hs2 : Hid (wr.heap.size < (W1.drewN nq).heap.size) := by have := Hs1.out; show _ < _; show wr.heap.size < W1.heap.size; omega
      have Hw : Hid (w1.heap.size < wr.heap.size) := HM.out.l4
      obtain ⟨W2, hW2⟩ : ∃ W2, W1.drewN nq = W2 := ⟨_, rfl⟩
      rw [hW2] at HC2 HM2 Hs2 ⊢
      clear hW2 HM1 HC1 HW1 Hs1
      obtain ⟨x3, hx3⟩ : ∃ x, hasOrd c = x := ⟨_, rfl⟩
      obtain ⟨x5, hx5⟩ : ∃ x, decide (1 < c.step) = x := ⟨_, rfl⟩
      rw [hx3, hx5]
      have Hx3 := hid hx3
      have Hx5 := hid hx5
      have cM := hid (fun W => CMayCl_any c W hcOk.out)
      have cB := hid (fun W => CBoth_any o c W hMI.out.ok hcOk.out)
      obtain ⟨x1, hx1⟩ : ∃ x, mayC c = x := ⟨_, rfl⟩
      rw [hx1] at cM
      obtain ⟨x2, hx2⟩ : ∃ x, c.or = x := ⟨_, rfl⟩
      obtain ⟨x4, hx4⟩ : ∃ x, hasOrd o = x := ⟨_, rfl⟩
      obtain ⟨x6, hx6⟩ : ∃ x, decide (1 < o.step) = x := ⟨_, rfl⟩
      have hrv : Hid (refuse o c = (!x1 || (x2 || ((x3 && x4) || (x5 && x6))))) := by show _ = _; rw [refuse, hx1, hx2, hx3, hx4, hx5, hx6]
      have hmv0 : Hid (refuse o c = true → meetV l = (zeroCl, false)) := fun h => by
        rw [meetV, hnone.out (by rw [meetK_snoc, hmK.out, Option.bind_some, h]; rfl)]
      have Hx2 := hid hx2
      have Hx6 := hid hx6
      have hne0 := hid (fun W => neqOrd_run o hMI.out.ok W)
      rw [hx4] at hne0
      clear hx1 hx2 hx3 hx4 hx5 hx6
      have l2 := HC2.out.ld
      go_wp2_with fail
      refine (cM.out _).mono ?_
      rintro e w3 ⟨rfl, hB⟩
      have HM3 := hid (HM2.out.keep hB)
      have HC3 := hid (HC2.out.below hB Hs2.out)
      have Hs3 : Hid (wr.heap.size < w3.heap.size) := Nat.lt_of_lt_of_le Hs2.out hB.size
      clear hB l2 HM2 HC2 Hs2
      cases x1
      · have hmv : meetV l = (zeroCl, false) := hmv0.out (by rw [hrv.out]; rfl)
        have tr3 := HM3.out.tr
        go_wp2
        exact bodyPost_ret (results_cell_mid2 rfl _ _ w.heap.size 0 _ _ rfl (putCl_range _ rfl tr3) Try.underlying28 rfl infoCl) rfl ⟨by rw [hmv]; rfl, putCl_below HM3.out.be (Nat.le_refl _) _⟩
      have r7 := HC3.out.at 7 rfl
      rw [Hx2.out] at r7
      cases x2
      rotate_left
      · have hmv : meetV l = (zeroCl, false) := hmv0.out (by rw [hrv.out]; rfl)
        have tr3 := HM3.out.tr
        go_wp2
        exact bodyPost_ret (results_cell_mid2 rfl _ _ w.heap.size 0 _ _ rfl (putCl_range _ rfl tr3) Try.underlying28 rfl infoCl) rfl ⟨by rw [hmv]; rfl, putCl_below HM3.out.be (Nat.le_refl _) _⟩
      obtain ⟨q0, q1, q2, q3, q4, q5, q6, q7, q8, q9⟩ := HM3.out.cl.ord
      obtain ⟨-, s1, -, -, -⟩ := HM3.out.cl.tail
      have hne3 := hne0.out
      cases x3
      · cases x5
        · have hr : Hid (refuse o c = false) := by rw [hrv.out]; rfl
          have l4 := HM3.out.cl.ld
          have l6 := HC3.out.ld
          go_wp2_with fail
          refine (cB.out _).mono ?_
          rintro e w4 ⟨rfl, hB⟩
          have HM4 := hid (HM3.out.keep hB)
          have HC4 := hid (HC3.out.below hB Hs3.out)
          have Hs4 : Hid (wr.heap.size < w4.heap.size) := Nat.lt_of_lt_of_le Hs3.out hB.size
          clear hB l4 l6 r7 q0 q1 q2 q3 q4 q5 q6 q7 q8 q9 s1 hne3
          obtain ⟨E, hE⟩ : ∃ E, bothCl o c = E := ⟨_, rfl⟩
          rw [hE]
          have HE := hid hE
          clear hE
          have th4 := HM4.out.th
          have HM5 : Hid (MtS w w1.heap.size E (putCl w4 w1.heap.size (clList E))) := HM4.out.put (k := 0) (putCl_range _ rfl th4)
          have HC5 : Hid (ClB (putCl w4 w1.heap.size (clList E)) wr.heap.size c) := clB_other (k := 0) HC4.out (by have := Hw.out; omega)
          go_wp2
          have hst : stepM o c = E := by rw [stepM, ordM, Hx3.out, HE.out]; rw [if_neg (of_decide_eq_false Hx5.out)]; rfl
          exact ⟨⟨k + 1, stepM o c, by go_num, by omega, by show _ = _; rw [htk.out, meetK_snoc, hmK.out, Option.bind_some, hr.out]; rfl, by rw [htk.out]; exact minv_step hMI.out hcOk.out hr.out, by rw [hst]; exact HM5.out⟩, by simp [intOfM]; omega⟩
        · cases x6
          · have hd6 : decide (1 < o.step) = false := Hx6.out
            have hr : Hid (refuse o c = false) := by rw [hrv.out]; rfl
            have l4 := HM3.out.cl.ld
            have l6 := HC3.out.ld
            go_wp2_with fail
            refine (cB.out _).mono ?_
            rintro e w4 ⟨rfl, hB⟩
            have HM4 := hid (HM3.out.keep hB)
            have HC4 := hid (HC3.out.below hB Hs3.out)
            have Hs4 : Hid (wr.heap.size < w4.heap.size) := Nat.lt_of_lt_of_le Hs3.out hB.size
            clear hB l4 l6 r7 q0 q1 q2 q3 q4 q5 q6 q7 q8 q9 s1 hne3
            obtain ⟨E, hE⟩ : ∃ E, bothCl o c = E := ⟨_, rfl⟩
            rw [hE]
            have HE := hid hE
            clear hE
            have th4 := HM4.out.th
            have HM5 : Hid (MtS w w1.heap.size E (putCl w4 w1.heap.size (clList E))) := HM4.out.put (k := 0) (putCl_range _ rfl th4)
            have HC5 : Hid (ClB (putCl w4 w1.heap.size (clList E)) wr.heap.size c) := clB_other (k := 0) HC4.out (by have := Hw.out; omega)
            go_wp2_with fail
            clear th4
            obtain ⟨v0, v1, v2, -, -⟩ := HC5.out.tail
            obtain ⟨n0, n1, n2, -, -⟩ := HM5.out.cl.tail
            have y0 := there_fz HM5.out.th 25 (by omega)
            have y1 := there_fz HM5.out.th 26 (by omega)
            have y2 := there_fz HM5.out.th 27 (by omega)
            go_region
            clear v0 v1 v2 n0 n1 n2 y0 y1 y2
            go_wp2
            have hst : stepM o c = (unitCl E c) := by rw [stepM, ordM, Hx3.out, HE.out]; rw [if_pos (of_decide_eq_true Hx5.out)]; rfl
            exact ⟨⟨k + 1, stepM o c, by go_num, by omega, by show _ = _; rw [htk.out, meetK_snoc, hmK.out, Option.bind_some, hr.out]; rfl, by rw [htk.out]; exact minv_step hMI.out hcOk.out hr.out, by rw [hst]; exact ((HM5.out.put (o' := (unitCl E c)) (HM5.out.cl.setUnit HM5.out.th c)).keep (Below.refl _ _).drew)⟩, by simp [intOfM]; omega⟩
          · have hd6 : decide (1 < o.step) = true := Hx6.out
            have hmv : meetV l = (zeroCl, false) := hmv0.out (by rw [hrv.out]; rfl)
            have tr3 := HM3.out.tr
            go_wp2
            exact bodyPost_ret (results_cell_mid2 rfl _ _ w.heap.size 0 _ _ rfl (putCl_range _ rfl tr3) Try.underlying28 rfl infoCl) rfl ⟨by rw [hmv]; rfl, putCl_below HM3.out.be (Nat.le_refl _) _⟩
      · cases x4
        · cases x5
          · have hr : Hid (refuse o c = false) := by rw [hrv.out]; rfl
            have l4 := HM3.out.cl.ld
            have l6 := HC3.out.ld
            go_wp2_with fail
            refine (cB.out _).mono ?_
            rintro e w4 ⟨rfl, hB⟩
            have HM4 := hid (HM3.out.keep hB)
            have HC4 := hid (HC3.out.below hB Hs3.out)
            have Hs4 : Hid (wr.heap.size < w4.heap.size) := Nat.lt_of_lt_of_le Hs3.out hB.size
            clear hB l4 l6 r7 q0 q1 q2 q3 q4 q5 q6 q7 q8 q9 s1 hne3
            obtain ⟨E, hE⟩ : ∃ E, bothCl o c = E := ⟨_, rfl⟩
            rw [hE]
            have HE := hid hE
            clear hE
            have th4 := HM4.out.th
            have HM5 : Hid (MtS w w1.heap.size E (putCl w4 w1.heap.size (clList E))) := HM4.out.put (k := 0) (putCl_range _ rfl th4)
            have HC5 : Hid (ClB (putCl w4 w1.heap.size (clList E)) wr.heap.size c) := clB_other (k := 0) HC4.out (by have := Hw.out; omega)
            obtain ⟨p0, p1, p2, p3, p4, p5, p6, p7, p8, p9⟩ := HC5.out.ord
            obtain ⟨m0, m1, m2, m3, m4, m5, m6, m7, m8, m9⟩ := HM5.out.cl.ord
            have z0 := there_fz HM5.out.th 8 (by omega)
            have z1 := there_fz HM5.out.th 9 (by omega)
            have z2 := there_fz HM5.out.th 10 (by omega)
            have z3 := there_fz HM5.out.th 11 (by omega)
            have z4 := there_fz HM5.out.th 12 (by omega)
            have z5 := there_fz HM5.out.th 13 (by omega)
            have z6 := there_fz HM5.out.th 14 (by omega)
            have z7 := there_fz HM5.out.th 15 (by omega)
            have z8 := there_fz HM5.out.th 16 (by omega)
            have z9 := there_fz HM5.out.th 17 (by omega)
            have HM6 : Hid (MtS w w1.heap.size (ordCl E c) ((putCl w4 w1.heap.size (clList E)).setCells w1.heap.size 8 (ord10 c))) := HM5.out.put (HM5.out.cl.setOrd HM5.out.th c)
            have HC6 : Hid (ClB ((putCl w4 w1.heap.size (clList E)).setCells w1.heap.size 8 (ord10 c)) wr.heap.size c) := clB_other HC5.out (by have := Hw.out; omega)
            obtain ⟨W6, hW6⟩ : ∃ W6, (putCl w4 w1.heap.size (clList E)).setCells w1.heap.size 8 (ord10 c) = W6 := ⟨_, rfl⟩
            have HW6 : Hid (((((((((((putCl w4 w1.heap.size (clList E)).setCell ⟨w1.heap.size, 8, none⟩ (.int .i64 c.oin)).setCell ⟨w1.heap.size, 9, none⟩ (.bool c.oback)).setCell ⟨w1.heap.size, 10, none⟩ (.int .u64 (c.od 0 : Nat))).setCell ⟨w1.heap.size, 11, none⟩ (.int .u64 (c.od 1 : Nat))).setCell ⟨w1.heap.size, 12, none⟩ (.int .u64 (c.od 2 : Nat))).setCell ⟨w1.heap.size, 13, none⟩ (.int .u64 (c.od 3 : Nat))).setCell ⟨w1.heap.size, 14, none⟩ (.int .u64 (c.od 4 : Nat))).setCell ⟨w1.heap.size, 15, none⟩ (.int .u64 (c.od 5 : Nat))).setCell ⟨w1.heap.size, 16, none⟩ (.int .u64 (c.od 6 : Nat))).setCell ⟨w1.heap.size, 17, none⟩ (.int .u64 (c.od 7 : Nat)) = W6) := hW6
            rw [hW6] at HM6 HC6
            clear hW6
            go_wp2
            have hst : stepM o c = (ordCl E c) := by rw [stepM, ordM, Hx3.out, HE.out]; rw [if_neg (of_decide_eq_false Hx5.out)]; rfl
            exact ⟨⟨k + 1, stepM o c, by go_num, by omega, by show _ = _; rw [htk.out, meetK_snoc, hmK.out, Option.bind_some, hr.out]; rfl, by rw [htk.out]; exact minv_step hMI.out hcOk.out hr.out, by rw [hst]; exact (by have h := HM6.out; rw [← HW6.out] at h; exact h)⟩, by simp [intOfM]; omega⟩
          · cases x6
            · have hd6 : decide (1 < o.step) = false := Hx6.out
              have hr : Hid (refuse o c = false) := by rw [hrv.out]; rfl
              have l4 := HM3.out.cl.ld
              have l6 := HC3.out.ld
              go_wp2_with fail
              refine (cB.out _).mono ?_
              rintro e w4 ⟨rfl, hB⟩
              have HM4 := hid (HM3.out.keep hB)
              have HC4 := hid (HC3.out.below hB Hs3.out)
              have Hs4 : Hid (wr.heap.size < w4.heap.size) := Nat.lt_of_lt_of_le Hs3.out hB.size
              clear hB l4 l6 r7 q0 q1 q2 q3 q4 q5 q6 q7 q8 q9 s1 hne3
              obtain ⟨E, hE⟩ : ∃ E, bothCl o c = E := ⟨_, rfl⟩
              rw [hE]
              have HE := hid hE
              clear hE
              have th4 := HM4.out.th
              have HM5 : Hid (MtS w w1.heap.size E (putCl w4 w1.heap.size (clList E))) := HM4.out.put (k := 0) (putCl_range _ rfl th4)
              have HC5 : Hid (ClB (putCl w4 w1.heap.size (clList E)) wr.heap.size c) := clB_other (k := 0) HC4.out (by have := Hw.out; omega)
              obtain ⟨p0, p1, p2, p3, p4, p5, p6, p7, p8, p9⟩ := HC5.out.ord
              obtain ⟨m0, m1, m2, m3, m4, m5, m6, m7, m8, m9⟩ := HM5.out.cl.ord
              have z0 := there_fz HM5.out.th 8 (by omega)
              have z1 := there_fz HM5.out.th 9 (by omega)
              have z2 := there_fz HM5.out.th 10 (by omega)
              have z3 := there_fz HM5.out.th 11 (by omega)
              have z4 := there_fz HM5.out.th 12 (by omega)
              have z5 := there_fz HM5.out.th 13 (by omega)
              have z6 := there_fz HM5.out.th 14 (by omega)
              have z7 := there_fz HM5.out.th 15 (by omega)
              have z8 := there_fz HM5.out.th 16 (by omega)
              have z9 := there_fz HM5.out.th 17 (by omega)
              have HM6 : Hid (MtS w w1.heap.size (ordCl E c) ((putCl w4 w1.heap.size (clList E)).setCells w1.heap.size 8 (ord10 c))) := HM5.out.put (HM5.out.cl.setOrd HM5.out.th c)
              have HC6 : Hid (ClB ((putCl w4 w1.heap.size (clList E)).setCells w1.heap.size 8 (ord10 c)) wr.heap.size c) := clB_other HC5.out (by have := Hw.out; omega)
              obtain ⟨W6, hW6⟩ : ∃ W6, (putCl w4 w1.heap.size (clList E)).setCells w1.heap.size 8 (ord10 c) = W6 := ⟨_, rfl⟩
              have HW6 : Hid (((((((((((putCl w4 w1.heap.size (clList E)).setCell ⟨w1.heap.size, 8, none⟩ (.int .i64 c.oin)).setCell ⟨w1.heap.size, 9, none⟩ (.bool c.oback)).setCell ⟨w1.heap.size, 10, none⟩ (.int .u64 (c.od 0 : Nat))).setCell ⟨w1.heap.size, 11, none⟩ (.int .u64 (c.od 1 : Nat))).setCell ⟨w1.heap.size, 12, none⟩ (.int .u64 (c.od 2 : Nat))).setCell ⟨w1.heap.size, 13, none⟩ (.int .u64 (c.od 3 : Nat))).setCell ⟨w1.heap.size, 14, none⟩ (.int .u64 (c.od 4 : Nat))).setCell ⟨w1.heap.size, 15, none⟩ (.int .u64 (c.od 5 : Nat))).setCell ⟨w1.heap.size, 16, none⟩ (.int .u64 (c.od 6 : Nat))).setCell ⟨w1.heap.size, 17, none⟩ (.int .u64 (c.od 7 : Nat)) = W6) := hW6
              rw [hW6] at HM6 HC6
              clear hW6
              go_wp2_with fail
              rw [HW6.out]
              clear th4 p0 p1 p2 p3 p4 p5 p6 p7 p8 p9 m0 m1 m2 m3 m4 m5 m6 m7 m8 m9 z0 z1 z2 z3 z4 z5 z6 z7 z8 z9
              obtain ⟨v0, v1, v2, -, -⟩ := HC6.out.tail
              obtain ⟨n0, n1, n2, -, -⟩ := HM6.out.cl.tail
              have y0 := there_fz HM6.out.th 25 (by omega)
              have y1 := there_fz HM6.out.th 26 (by omega)
              have y2 := there_fz HM6.out.th 27 (by omega)
              go_region
              clear v0 v1 v2 n0 n1 n2 y0 y1 y2
              go_wp2
              have hst : stepM o c = (unitCl (ordCl E c) c) := by rw [stepM, ordM, Hx3.out, HE.out]; rw [if_pos (of_decide_eq_true Hx5.out)]; rfl
              exact ⟨⟨k + 1, stepM o c, by go_num, by omega, by show _ = _; rw [htk.out, meetK_snoc, hmK.out, Option.bind_some, hr.out]; rfl, by rw [htk.out]; exact minv_step hMI.out hcOk.out hr.out, by rw [hst]; exact ((HM6.out.put (o' := (unitCl (ordCl E c) c)) (HM6.out.cl.setUnit HM6.out.th c)).keep (Below.refl _ _).drew)⟩, by simp [intOfM]; omega⟩
            · have hd6 : decide (1 < o.step) = true := Hx6.out
              have hmv : meetV l = (zeroCl, false) := hmv0.out (by rw [hrv.out]; rfl)
              have tr3 := HM3.out.tr
              go_wp2
              exact bodyPost_ret (results_cell_mid2 rfl _ _ w.heap.size 0 _ _ rfl (putCl_range _ rfl tr3) Try.underlying28 rfl infoCl) rfl ⟨by rw [hmv]; rfl, putCl_below HM3.out.be (Nat.le_refl _) _⟩
        · have hmv : meetV l = (zeroCl, false) := hmv0.out (by rw [hrv.out]; rfl)
          have tr3 := HM3.out.tr
          go_wp2
          exact bodyPost_ret (results_cell_mid2 rfl _ _ w.heap.size 0 _ _ rfl (putCl_range _ rfl tr3) Try.underlying28 rfl infoCl) rfl ⟨by rw [hmv]; rfl, putCl_below HM3.out.be (Nat.le_refl _) _⟩
    · have hke : k = l.length := by omega
      have hmK2 := hmK.out
      rw [hke, List.take_length] at hmK2
      have hmv : Hid (meetV l = (o, true)) := by show _ = _; rw [meetV, hmK2]
      clear hmK2
      have l4 := HM.out.cl.ld
      have tr4 := HM.out.tr
      go_wp2
      exact bodyPost_ret (results_cell_mid2 rfl _ _ w.heap.size 0 _ _ rfl (putCl_range _ rfl tr4) Try.underlying28 rfl infoCl) rfl ⟨by rw [hmv.out]; rfl, putCl_below HM.out.be (Nat.le_refl _) _⟩
end Go.Proofs.Ytndfckpcbiecnaa
namespace Go.Proofs.Ytndfckpcbiecnaa
open Go.RowKit
set_option linter.unusedVariables false

attribute [local go_sem ↓] loadAt_cl neq_ordS
set_option maxRecDepth 100000 in
set_option maxHeartbeats 6400000 in
theorem RMeet_any (a : Option Addr) (cap : Nat) (l : List Cl) (w : World) (hl : l.length ≤ 1000) (hs : Sl w a (cls l)) (hok : ∀ c ∈ l, c.Ok) :
    Calls Try.prog 45 #[.slice a l.length cap] w fun e w' => e = .returned (.bool (meetB l)) ∧ Below w.heap.size w w' := by
  have Hs := hid hs
  have Hok := hid hok
  have hlI : (l.length : Int) ≤ 1000 := by omega
  have Hl := hid hl
  clear hs hok hl
  go_enter Try.func45, Try.ntmps45
  go_wp2
  go_loopw [3, 4, 5] (fun o s i wr => ∃ k : Nat, i = .int .i64 k ∧ o = .int .i64 (cntO (l.take k) : Nat) ∧ s = .int .i64 (cntS (l.take k) : Nat) ∧ k ≤ l.length ∧ Hid (fineB (l.take k) = true) ∧ Hid (Below w.heap.size w wr)) (fun _ _ i _ => l.length - (intOfM i).toNat)
  case atStart => exact ⟨0, rfl, rfl, rfl, by omega, by show _ = _; rfl, Below.refl _ _⟩
  case round =>
    obtain ⟨k, rfl, rfl, rfl, hk, hF, HB⟩ := hrel
    have hco : cntO (l.take k) ≤ k := by
      have := List.length_filter_le hasOrd (l.take k)
      rw [List.length_take] at this
      rw [cntO]; omega
    have hcs : cntS (l.take k) ≤ k := by
      have := List.length_filter_le (fun c : Cl => decide (1 < c.step)) (l.take k)
      rw [List.length_take] at this
      rw [cntS]; omega
    by_cases hlt : k < l.length
    · obtain ⟨b, off, rfl, hbk, hr⟩ := Hs.out.atCl hlt
      have hr' := range_below hr HB.out hbk
      have hcOk := hid (Hok.out _ (List.getElem_mem hlt))
      have htk := hid (take_snoc l k hlt)
      have hnone := hid (fun h => meetB_take (l := l) (k := k + 1) (by omega) h)
      rw [take_snoc l k hlt] at hnone
      obtain ⟨c, hc⟩ : ∃ c, l[k] = c := ⟨_, rfl⟩
      rw [hc] at hr' hcOk htk hnone
      obtain ⟨no, hno⟩ : ∃ n, cntO (l.take k) = n := ⟨_, rfl⟩
      obtain ⟨ns, hns⟩ : ∃ n, cntS (l.take k) = n := ⟨_, rfl⟩
      have Hno := hid hno
      have Hns := hid hns
      rw [hno] at hco ⊢
      rw [hns] at hcs ⊢
      have Hr := hid hr'
      clear hc hr hno hns hr'
      have cM := hid (fun W => RMayCl_any c W hcOk.out)
      obtain ⟨x1, hx1⟩ : ∃ x, mayC c = x := ⟨_, rfl⟩
      obtain ⟨x2, hx2⟩ : ∃ x, c.or = x := ⟨_, rfl⟩
      obtain ⟨x3, hx3⟩ : ∃ x, hasOrd c = x := ⟨_, rfl⟩
      obtain ⟨x5, hx5⟩ : ∃ x, decide (1 < c.step) = x := ⟨_, rfl⟩
      rw [hx1] at cM
      have hne0 := hid (fun W => neqOrd_run c hcOk.out W)
      rw [hx3] at hne0
      have Hx1 := hid hx1
      have Hx2 := hid hx2
      have Hx3 := hid hx3
      have Hx5 := hid hx5
      have hff : Hid (x1 = false ∨ x2 = true → meetB l = false) := fun h => hnone.out (by
        rw [meetB, fineB_snoc, hx1, hx2]
        rcases h with h | h <;> rw [h] <;> simp)
      clear hx1 hx2 hx3 hx5
      have le := ld_at Hr.out
      go_wp2_with fail
      refine (cM.out _).mono ?_
      rintro e w3 ⟨rfl, hB⟩
      have hB3 : Below w.heap.size w w3 := HB.out.trans (hB.mono HB.out.size)
      have Hr3 := hid (range_below Hr.out hB (Nat.lt_of_lt_of_le hbk HB.out.size))
      have HB3 := hid hB3
      clear hB hB3 le
      cases x1
      · have hm := hid (hff.out (.inl rfl))
        go_wp2
        go_ret
        exact ⟨by rw [hm.out]; rfl, HB3.out⟩
      have r7 : w3.cell? ⟨b, off + k * 30 + 7, none⟩ = some (.bool x2) := by rw [← Hx2.out]; exact Hr3.out 7 _ rfl
      cases x2
      rotate_left
      · have hm := hid (hff.out (.inr rfl))
        go_wp2
        go_ret
        exact ⟨by rw [hm.out]; rfl, HB3.out⟩
      have o0 : w3.cell? ⟨b, off + k * 30 + 8, none⟩ = some (.int .i64 c.oin) := Hr3.out 8 _ rfl
      have o1 : w3.cell? ⟨b, off + k * 30 + 9, none⟩ = some (.bool c.oback) := Hr3.out 9 _ rfl
      have o2 : w3.cell? ⟨b, off + k * 30 + 10, none⟩ = some (.int .u64 (c.od 0 : Nat)) := Hr3.out 10 _ rfl
      have o3 : w3.cell? ⟨b, off + k * 30 + 11, none⟩ = some (.int .u64 (c.od 1 : Nat)) := Hr3.out 11 _ rfl
      have o4 : w3.cell? ⟨b, off + k * 30 + 12, none⟩ = some (.int .u64 (c.od 2 : Nat)) := Hr3.out 12 _ rfl
      have o5 : w3.cell? ⟨b, off + k * 30 + 13, none⟩ = some (.int .u64 (c.od 3 : Nat)) := Hr3.out 13 _ rfl
      have o6 : w3.cell? ⟨b, off + k * 30 + 14, none⟩ = some (.int .u64 (c.od 4 : Nat)) := Hr3.out 14 _ rfl
      have o7 : w3.cell? ⟨b, off + k * 30 + 15, none⟩ = some (.int .u64 (c.od 5 : Nat)) := Hr3.out 15 _ rfl
      have o8 : w3.cell? ⟨b, off + k * 30 + 16, none⟩ = some (.int .u64 (c.od 6 : Nat)) := Hr3.out 16 _ rfl
      have o9 : w3.cell? ⟨b, off + k * 30 + 17, none⟩ = some (.int .u64 (c.od 7 : Nat)) := Hr3.out 17 _ rfl
      have s26 : w3.cell? ⟨b, off + k * 30 + 26, none⟩ = some (.int .i64 c.step) := Hr3.out 26 _ rfl
      have hne := hne0.out
      cases x3 <;> cases x5
      all_goals
        have hd5 := Hx5.out
        go_wp2
        refine ⟨⟨k + 1, by go_num, ?_, ?_, by omega, by show _ = _; rw [htk.out, fineB_snoc, hF.out, Hx1.out, Hx2.out]; rfl, HB3.out⟩, by simp [intOfM]; omega⟩
        · rw [htk.out, cntO_snoc, Hno.out, Hx3.out]; try rfl
        · rw [htk.out, cntS_snoc, Hns.out]
          first
            | rw [if_pos (of_decide_eq_true hd5)]; rfl
            | rw [if_neg (of_decide_eq_false hd5)]; rfl
    · have hke : k = l.length := by omega
      subst hke
      rw [List.take_length] at hF hco hcs ⊢
      have hr : Hid (meetB l = (decide (cntO l ≤ 1) && decide (cntS l ≤ 1))) := by show _ = _; rw [meetB, hF.out, Bool.true_and]
      obtain ⟨no, hno⟩ : ∃ n, cntO l = n := ⟨_, rfl⟩
      obtain ⟨ns, hns⟩ : ∃ n, cntS l = n := ⟨_, rfl⟩
      rw [hno, hns] at hr ⊢
      clear hno hns
      by_cases h1 : no ≤ 1
      · have hd1 : decide ((no : Int) ≤ 1) = true := decide_eq_true (by omega)
        go_wp2
        go_ret
        exact ⟨ret_bool (by rw [hr.out, decide_eq_true h1, Bool.true_and]; exact decide_eq_decide.mpr (by omega)), HB.out⟩
      · have hd1 : decide ((no : Int) ≤ 1) = false := decide_eq_false (by omega)
        go_wp2
        go_ret
        exact ⟨ret_bool (by rw [hr.out, decide_eq_false h1, Bool.false_and]), HB.out⟩
end Go.Proofs.Ytndfckpcbiecnaa

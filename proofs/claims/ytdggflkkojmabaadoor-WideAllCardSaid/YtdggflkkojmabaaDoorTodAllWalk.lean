/-
  ferialaw07.TodAll answers true for every masks and number.
-/
import Derived.Test.YtdggflkkojmabaaDoorTodIter
import Derived.Test.YtdggflkkojmabaaDoorTodOnWalk
import Derived.Shelf.Abstract
namespace Go.Proofs.YtdggflkkojmabaaDoor
open Go.RowKit
set_option linter.unusedVariables false

set_option maxHeartbeats 800000 in
theorem TAll_any (hs ms ss : Nat) (w : World) (hh : hs < 18446744073709551616) (hm : ms < 18446744073709551616) (hss : ss < 18446744073709551616) :
    Calls Tryd.prog 52 #[.int .u64 hs, .int .u64 ms, .int .u64 ss] w fun e w' => e = .returned (.func (.func 93) #[] #[.pointer (some ⟨w.heap.size, 0, none⟩), .pointer (some ⟨w.heap.size + 1, 0, none⟩), .pointer (some ⟨w.heap.size + 2, 0, none⟩)]) ∧
      w'.cell? ⟨w.heap.size, 0, none⟩ = some (.int .u64 (cutM hs 23)) ∧ w'.cell? ⟨w.heap.size + 1, 0, none⟩ = some (.int .u64 (cutM ms 59)) ∧ w'.cell? ⟨w.heap.size + 2, 0, none⟩ = some (.int .u64 (cutM ss 59)) ∧
      Below w.heap.size w w' ∧ w'.heap.size = w.heap.size + 3 := by
  have c1 := hid (fun W => Held_any hs ms ss W hh hm hss)
  go_enter Tryd.func52, Tryd.ntmps52
  go_wp2_with fail
  refine (c1.out _).mono ?_
  rintro e w' ⟨rfl, rfl⟩
  go_wp2
  go_ret
  refine ⟨rfl, by simp [go_sem], by simp [go_sem], by simp [go_sem], ?_, by simp [go_sem]⟩
  exact below_new (below_new (below_new (Below.refl _ _) (Nat.le_refl _)) (by simp)) (by simp; omega)

/-- the boxes that the callback writes -/
def TaJ (bf bn : Nat) (most : Nat) (k : Nat) (O : Nat → Prop) (W : World) : Prop :=
  W.cell? ⟨bf, 0, none⟩ = some (.bool true) ∧ W.cell? ⟨bn, 0, none⟩ = some (.int .i64 k) ∧ W.frozen? ⟨bf, 0, none⟩ = false ∧ W.frozen? ⟨bn, 0, none⟩ = false ∧ O bf ∧ O bn ∧ ∀ b, O b → b < W.heap.size
theorem TaJ.stab {bf bn most k : Nat} {O : Nat → Prop} {W W' : World} (h : TaJ bf bn most k O W) (hs : W.heap.size ≤ W'.heap.size) (hO : ∀ b, O b → W'.heap[b]? = W.heap[b]?) : TaJ bf bn most k O W' := by
  obtain ⟨h1, h2, h3, h4, h5, h6, h7⟩ := h
  exact ⟨(World.cell?_of_block (w := W) (a := ⟨bf, 0, none⟩) (hO bf h5)).trans h1, (World.cell?_of_block (w := W) (a := ⟨bn, 0, none⟩) (hO bn h6)).trans h2,
    (World.frozen?_of_block (w := W) (a := ⟨bf, 0, none⟩) (hO bf h5)).trans h3, (World.frozen?_of_block (w := W) (a := ⟨bn, 0, none⟩) (hO bn h6)).trans h4, h5, h6, fun b hb => Nat.lt_of_lt_of_le (h7 b hb) hs⟩

set_option maxHeartbeats 1600000 in
theorem TaCall_any (bf bn bl bo most k : Nat) (a : Option Addr) (cap : Nat) (L : List Int) (O : Nat → Prop) (W : World) (hk : k < L.length) (hl : L.length ≤ 86400) (hm : most < 65536) (hne : bf ≠ bn) (hJ : TaJ bf bn most k O W)
    (hbl : W.cell? ⟨bl, 0, none⟩ = some (.slice a L.length cap)) (hbo : W.cell? ⟨bo, 0, none⟩ = some (.int .u16 most)) (hs : Sl W a (ints L)) (hlf : bl ≠ bf) (hln : bl ≠ bn) (hof : bo ≠ bf) (hon : bo ≠ bn) :
    Calls Tryd.prog 53 #[.int .i64 L[k], .pointer (some ⟨bf, 0, none⟩), .pointer (some ⟨bn, 0, none⟩), .pointer (some ⟨bl, 0, none⟩), .pointer (some ⟨bo, 0, none⟩)] W fun e W' =>
      Grow O O W W' ∧ TaJ bf bn most (k + 1) O W' ∧ e = .returned (.bool (decide (k + 1 ≠ most))) := by
  obtain ⟨h1, h2, h3, h4, h5, h6, h7⟩ := hJ
  obtain ⟨b, off, rfl, hbk, hc⟩ := hs.atInt hk
  have e1 := hc k hk
  obtain ⟨x, hx⟩ : ∃ x, L[k] = x := ⟨_, rfl⟩
  rw [hx] at e1 ⊢
  have H567 := hid (And.intro h5 (And.intro h6 h7))
  clear hs hc hx h5 h6 h7
  have hset : ∀ Wx, Wx = (W.setCell ⟨bf, 0, none⟩ (.bool true)).setCell ⟨bn, 0, none⟩ (.int .i64 ((k : Int) + 1)) → Grow O O W Wx ∧ TaJ bf bn most (k + 1) O Wx := by
    rintro Wx rfl
    obtain ⟨h5, h6, h7⟩ := H567.out
    refine ⟨⟨fun _ h => h, fun _ h => .inl h, rfl, rfl, rfl, by simp [go_sem], fun b hb hn => ?_⟩, ?_, ?_, by simp [go_sem, h3], by simp [go_sem, h4], h5, h6, fun b hb => by simpa [go_sem] using h7 b hb⟩
    · exact (Below.heap_setCell _ _ _ _ (fun e => hn (by rw [e]; exact h6))).trans (Below.heap_setCell _ _ _ _ (fun e => hn (by rw [e]; exact h5)))
    · simp [go_sem, h1]
    · simp [go_sem, h2]
  have Hset := hid hset
  clear hset
  by_cases hk0 : 0 < k
  · go_enter Tryd.func53, Tryd.ntmps53
    go_wp2
    · rename_i hkm
      have r := Hset.out ((W.setCell ⟨bf, 0, none⟩ (.bool true)).setCell ⟨bn, 0, none⟩ (.int .i64 (most : Int))) (by rw [hkm])
      exact bodyPost_ret (v := .bool false) (by simp [results, Tryd.results53, go_sem]) rfl ⟨r.1, r.2, ret_bool (by rw [Bool.eq_iff_iff]; simp; omega)⟩
    · rename_i hkm
      have r := Hset.out _ rfl
      exact bodyPost_ret (v := .bool ((k : Int) + 1 != (most : Int) && decide ((k : Int) + 1 < 90000))) (by simp [results, Tryd.results53, go_sem]) rfl ⟨r.1, r.2, ret_bool (by rw [Bool.eq_iff_iff]; simp; omega)⟩
  · have e1' : W.cell? ⟨b, off, none⟩ = some (.int .i64 x) := by
      have : k = 0 := by omega
      rw [this] at e1; exact e1
    go_enter Tryd.func53, Tryd.ntmps53
    go_wp2
    · rename_i hkm
      have r := Hset.out ((W.setCell ⟨bf, 0, none⟩ (.bool true)).setCell ⟨bn, 0, none⟩ (.int .i64 (most : Int))) (by rw [hkm])
      exact bodyPost_ret (v := .bool false) (by simp [results, Tryd.results53, go_sem]) rfl ⟨r.1, r.2, ret_bool (by rw [Bool.eq_iff_iff]; simp; omega)⟩
    · rename_i hkm
      have r := Hset.out _ rfl
      exact bodyPost_ret (v := .bool ((k : Int) + 1 != (most : Int) && decide ((k : Int) + 1 < 90000))) (by simp [results, Tryd.results53, go_sem]) rfl ⟨r.1, r.2, ret_bool (by rw [Bool.eq_iff_iff]; simp; omega)⟩

theorem Sl.grow {w1 W5 W : World} {O0 O : Nat → Prop} {a : Option Addr} {cs : List Value} (h : Sl w1 a cs) (hb : Below w1.heap.size w1 W5) (hG : Grow O0 O W5 W) (hn : ∀ b, b < w1.heap.size → ¬ O0 b) : Sl W a cs := by
  rcases h with h | ⟨b, off, rfl, hlt, hc⟩
  · exact .inl h
  · have hl5 := Nat.lt_of_lt_of_le hlt hb.size
    exact .inr ⟨b, off, rfl, Nat.lt_of_lt_of_le hl5 hG.eff.size, fun j hj => (hG.cell hl5 (hn b hlt) _).trans ((hb.cell (p := ⟨b, off + j, none⟩) hlt).trans (hc j hj))⟩

set_option maxRecDepth 100000 in
set_option maxHeartbeats 8000000 in
theorem TodAll_walk (y0 y1 y2 most : Nat) (w : World)
    (hy0 : y0 < 18446744073709551616) (hy1 : y1 < 18446744073709551616) (hy2 : y2 < 18446744073709551616) (hm : most < 65536) (hT : Tab w) :
    Calls Tryd.prog 10 #[.agg #[.int .u64 y0, .int .u64 y1, .int .u64 y2], .int .u16 most] w fun e w' => e = .returned (.bool true) ∧ Below w.heap.size w w' := by
  have HT := hid hT
  have hT0 := hT.1
  clear hT
  have c1 : Hid (∀ W, Calls Tryd.prog 51 #[.int .u64 y0, .int .u64 y1, .int .u64 y2] W fun e w' => ∃ a n cap, e = .returned (.slice a n cap) ∧ Hid (n = (secsOf y0 y1 y2).length) ∧ Sl w' a (ints (secsOf y0 y1 y2)) ∧ w'.ownsRow W.heap.size 3 1 (.slice a n cap) n (ints (secsOf y0 y1 y2)) ∧ Below W.heap.size W w') := hid (fun W => own_ret (RAll_any y0 y1 y2 W hy0 hy1 hy2))
  have c2 := hid (fun W => TAll_any y0 y1 y2 W hy0 hy1 hy2)
  have hle := secsOf_count y0 y1 y2
  have c3 : Hid (∀ (bh bm bs : Nat) (y : Value) (J Jx : OwnP) (O : Nat → Prop) (W : World), Client2 Tryd.prog y (secsOf y0 y1 y2) J Jx O W → J 0 O W → bh < W.heap.size → bm < W.heap.size → bs < W.heap.size → ¬ O bh → ¬ O bm → ¬ O bs →
      W.cell? ⟨bh, 0, none⟩ = some (.int .u64 (cutM y0 23)) → W.cell? ⟨bm, 0, none⟩ = some (.int .u64 (cutM y1 59)) → W.cell? ⟨bs, 0, none⟩ = some (.int .u64 (cutM y2 59)) → Tab W → ¬ O 0 →
      Calls Tryd.prog 93 #[y, .pointer (some ⟨bh, 0, none⟩), .pointer (some ⟨bm, 0, none⟩), .pointer (some ⟨bs, 0, none⟩)] W fun e W' => (∃ v, e = .returned v) ∧ Told (secsOf y0 y1 y2) J Jx O W W') :=
    fun bh bm bs y J Jx O W h1 h2 h3 h4 h5 h6 h7 h8 h9 g1 g2 g3 g4 => TodIter_any (cutM y0 23) (cutM y1 59) (cutM y2 59) bh bm bs y J Jx O W (cutM_lt 23 hy0) (cutM_lt 59 hy1) (cutM_lt 59 hy2) h1 h2 h3 h4 h5 h6 h7 h8 h9 g1 g2 g3 g4
  obtain ⟨L, hL⟩ : ∃ L, secsOf y0 y1 y2 = L := ⟨_, rfl⟩
  rw [hL] at hle c1
  simp only [hL] at c3
  clear hL
  obtain ⟨W0, hW0⟩ : ∃ W0, (w.alloc (.cells #[.int .u64 y0, .int .u64 y1, .int .u64 y2] 52)).alloc (.cells #[.int .u16 most] 66) = W0 := ⟨_, rfl⟩
  have q1 : W0.heap.size = w.heap.size + 2 := by rw [← hW0]; simp
  have q2 : Below w.heap.size w W0 := by rw [← hW0]; exact below_new (below_new (Below.refl _ _) (Nat.le_refl _)) (by simp)
  have t1 : W0.cell? ⟨w.heap.size, 0, none⟩ = some (.int .u64 y0) := by rw [← hW0]; simp [go_sem]
  have t2 : W0.cell? ⟨w.heap.size, 1, none⟩ = some (.int .u64 y1) := by rw [← hW0]; simp [go_sem]
  have t3 : W0.cell? ⟨w.heap.size, 2, none⟩ = some (.int .u64 y2) := by rw [← hW0]; simp [go_sem]
  have t4 : W0.cell? ⟨w.heap.size + 1, 0, none⟩ = some (.int .u16 most) := by rw [← hW0]; simp [go_sem]
  have HW0 := hid hW0
  have Q2 := hid q2
  clear hW0 q2
  go_enter Tryd.func10, Tryd.ntmps10
  go_wp2_with fail
  rw [HW0.out]
  go_wp2_with fail
  refine (c1.out W0).mono ?_
  rintro e w1 ⟨a, n, cap, rfl, hn, hsl, _, hB1⟩
  obtain rfl := hn.out
  have Hsl := hid hsl
  have u1 := (hB1.cell (p := ⟨w.heap.size, 0, none⟩) (by simp only []; omega)).trans t1
  have u2 := (hB1.cell (p := ⟨w.heap.size, 1, none⟩) (by simp only []; omega)).trans t2
  have u3 := (hB1.cell (p := ⟨w.heap.size, 2, none⟩) (by simp only []; omega)).trans t3
  have u4 := (hB1.cell (p := ⟨w.heap.size + 1, 0, none⟩) (by simp only []; omega)).trans t4
  have s1 := hB1.size
  have lt1 : w.heap.size < w1.heap.size := by omega
  have lt2 : w.heap.size + 1 < w1.heap.size := by omega
  have HB1 : Hid (Below w.heap.size w w1) := Q2.out.trans (hB1.mono Q2.out.size)
  obtain ⟨w2, hw2⟩ : ∃ w2, w1.alloc (.cells #[.slice a L.length cap] 22) = w2 := ⟨_, rfl⟩
  have s2 : w2.heap.size = w1.heap.size + 1 := by rw [← hw2]; simp
  have b2 : Below w1.heap.size w1 w2 := by rw [← hw2]; exact below_new (Below.refl _ _) (Nat.le_refl _)
  have v5 : w2.cell? ⟨w1.heap.size, 0, none⟩ = some (.slice a L.length cap) := by rw [← hw2]; simp [go_sem]
  have v1 := (b2.cell (p := ⟨w.heap.size, 0, none⟩) (by simp only []; omega)).trans u1
  have v2 := (b2.cell (p := ⟨w.heap.size, 1, none⟩) (by simp only []; omega)).trans u2
  have v3 := (b2.cell (p := ⟨w.heap.size, 2, none⟩) (by simp only []; omega)).trans u3
  have v4 := (b2.cell (p := ⟨w.heap.size + 1, 0, none⟩) (by simp only []; omega)).trans u4
  have HW2 := hid hw2
  have B2 := hid b2
  clear hB1 hsl hn t1 t2 t3 t4 hw2 b2 c1
  go_wp2_with fail
  rw [HW2.out]
  refine (c2.out w2).mono ?_
  rintro e w3 ⟨rfl, x1, x2, x3, hB3, s3⟩
  have hnil := fun (c : Array Value) W => run_eq_nilFunc (P := Tryd.prog) (t := 33) (f := .func 93) (a := #[]) (c := c) (w := W) ⟨_, _, _, Tryd.underlying33⟩
  obtain ⟨W5, hW5⟩ : ∃ W5, (w3.alloc (.cells #[.int .i64 0] 3)).alloc (.cells #[.bool true] 4) = W5 := ⟨_, rfl⟩
  have s5 : W5.heap.size = w3.heap.size + 2 := by rw [← hW5]; simp
  have b5 : Below w3.heap.size w3 W5 := by rw [← hW5]; exact below_new (below_new (Below.refl _ _) (Nat.le_refl _)) (by simp)
  have z1 : W5.cell? ⟨w3.heap.size, 0, none⟩ = some (.int .i64 0) := by rw [← hW5]; simp [go_sem]
  have z2 : W5.cell? ⟨w3.heap.size + 1, 0, none⟩ = some (.bool true) := by rw [← hW5]; simp [go_sem]
  have z3 : W5.frozen? ⟨w3.heap.size, 0, none⟩ = false := by rw [← hW5]; simp [go_sem]
  have z4 : W5.frozen? ⟨w3.heap.size + 1, 0, none⟩ = false := by rw [← hW5]; simp [go_sem]
  have b25 : Below w2.heap.size w2 W5 := hB3.trans (b5.mono hB3.size)
  have b15 : Below w1.heap.size w1 W5 := B2.out.trans (b25.mono B2.out.size)
  have B05 : Hid (Below w.heap.size w W5) := HB1.out.trans (b15.mono HB1.out.size)
  have zl := (b25.cell (p := ⟨w1.heap.size, 0, none⟩) (by simp only []; omega)).trans v5
  have zo := (b25.cell (p := ⟨w.heap.size + 1, 0, none⟩) (by simp only []; omega)).trans v4
  have hC : Client2 Tryd.prog (.func (.func 53) #[] #[.pointer (some ⟨w3.heap.size + 1, 0, none⟩), .pointer (some ⟨w3.heap.size, 0, none⟩), .pointer (some ⟨w1.heap.size, 0, none⟩), .pointer (some ⟨w.heap.size + 1, 0, none⟩)]) L
      (fun k O W => TaJ (w3.heap.size + 1) w3.heap.size most k O W ∧ ∀ j, 1 ≤ j → j ≤ k → j ≠ most) (fun k O W => TaJ (w3.heap.size + 1) w3.heap.size most k O W ∧ k = most) (fun b => b = w3.heap.size + 1 ∨ b = w3.heap.size) W5 := {
    form := ⟨_, _, _, rfl⟩
    stab := fun k O W W' h hs hO => ⟨h.1.stab hs hO, h.2⟩
    stabx := fun k O W W' h hs hO => ⟨h.1.stab hs hO, h.2⟩
    lt := fun k O W h => h.1.2.2.2.2.2.2
    ltx := fun k O W h => h.1.2.2.2.2.2.2
    call := fun k O W hk hJ hG => .inl ⟨_, _, rfl, Go.Proofs.enters_of Tryd.func53 (by kernel_rfl) rfl,
      (TaCall_any (w3.heap.size + 1) w3.heap.size w1.heap.size (w.heap.size + 1) most k a cap L O W hk hle hm (by omega) hJ.1
        ((hG.cell (by omega) (by omega) 0).trans zl) ((hG.cell (by omega) (by omega) 0).trans zo) (Hsl.out.grow b15 hG (fun b hb => by omega)) (by omega) (by omega) (by omega) (by omega)).mono fun e W' ⟨h1, h2, h3⟩ =>
          ⟨O, h1.sub, h1.new, h1.eff, by
            by_cases e1 : k + 1 = most
            · right; exact ⟨by rw [h3]; simp [e1], h2, e1⟩
            · left; exact ⟨by rw [h3]; simp [e1], h2, fun j hj1 hj2 => by
                rcases Nat.lt_or_ge k j with h6 | h6
                · have : j = k + 1 := by omega
                  rw [this]; exact e1
                · exact hJ.2 j hj1 h6⟩⟩⟩ }
  have hI := c3.out w2.heap.size (w2.heap.size + 1) (w2.heap.size + 2) _ _ _ (fun b => b = w3.heap.size + 1 ∨ b = w3.heap.size) W5 hC ⟨⟨z2, z1, z4, z3, .inl rfl, .inr rfl, fun b hb => by omega⟩, fun j h1 h2 => by omega⟩
    (by omega) (by omega) (by omega) (by omega) (by omega) (by omega) ((b5.cell (p := ⟨w2.heap.size, 0, none⟩) (by simp only []; omega)).trans x1) ((b5.cell (p := ⟨w2.heap.size + 1, 0, none⟩) (by simp only []; omega)).trans x2)
    ((b5.cell (p := ⟨w2.heap.size + 2, 0, none⟩) (by simp only []; omega)).trans x3) (HT.out.later B05.out) (by omega)
  have HI := hid hI
  have HW5 := hid hW5
  have Zl := hid zl
  have Zo := hid zo
  clear hI hC hW5 b5 z1 z2 z3 z4 b25 b15 zl zo x1 x2 x3 v1 v2 v3 v4 v5 u1 u2 u3 u4 hB3 c2 c3
  have S2 := hid s2
  have S3 := hid s3
  have S5 := hid s5
  clear s2 s3 s5
  go_wp2_with fail
  rw [HW5.out]
  refine HI.out.mono ?_
  rintro e W6 ⟨⟨v, rfl⟩, O', hsub, hnew, hE, hend⟩
  have hG : Grow (fun b => b = w3.heap.size + 1 ∨ b = w3.heap.size) O' W5 W6 := ⟨hsub, hnew, hE⟩
  have S2' := S2.out
  have S3' := S3.out
  have S5' := S5.out
  have cl := (hG.cell (b := w1.heap.size) (by omega) (by omega) 0).trans Zl.out
  have co := (hG.cell (b := w.heap.size + 1) (by omega) (by omega) 0).trans Zo.out
  have HB6 : Hid (Below w.heap.size w W6) := B05.out.trans (hE.below (by rintro b (h | h) <;> omega) B05.out.size)
  have HL := hid (lives07_any W6 (HT.out.later HB6.out))
  have hfin : W6.cell? ⟨w3.heap.size + 1, 0, none⟩ = some (.bool true) ∧ ((W6.cell? ⟨w3.heap.size, 0, none⟩ = some (.int .i64 L.length) ∧ (most = 0 ∨ L.length < most)) ∨ (W6.cell? ⟨w3.heap.size, 0, none⟩ = some (.int .i64 most) ∧ 0 < most ∧ most ≤ L.length)) := by
    rcases hend with ⟨hJ, hj⟩ | ⟨k, hk1, hk2, hJ, hj⟩
    · refine ⟨hJ.1, .inl ⟨hJ.2.1, ?_⟩⟩
      rcases Nat.eq_zero_or_pos most with h | h
      · exact .inl h
      · rcases Nat.lt_or_ge L.length most with h2 | h2
        · exact .inr h2
        · exact absurd rfl (hj most (by omega) h2)
    · subst hj
      exact ⟨hJ.1, .inr ⟨hJ.2.1, by omega, hk2⟩⟩
  obtain ⟨cf, hcase⟩ := hfin
  clear hend hG hsub hnew hE S2' S3' S5'
  rcases hcase with ⟨cn, h | h⟩ | ⟨cn, hp, hle2⟩
  · have hq : ¬ 0 < most := by omega
    clear h
    go_wp2_with fail
    refine HL.out.mono ?_
    rintro e w' ⟨rfl, rfl⟩
    go_wp2
    go_ret
    exact ⟨rfl, HB6.out⟩
  · have hq : 0 < most := by omega
    have hq2 : ¬ most < L.length := by omega
    clear h
    go_wp2_with fail
    refine HL.out.mono ?_
    rintro e w' ⟨rfl, rfl⟩
    go_wp2
    go_ret
    exact ⟨rfl, HB6.out⟩
  · have hq : 0 < most := by omega
    rcases Nat.lt_or_ge most L.length with h | h
    · have hq2 : most < L.length := by omega
      clear h hp hle2
      go_wp2_with fail
      refine HL.out.mono ?_
      rintro e w' ⟨rfl, rfl⟩
      go_wp2
      go_ret
      exact ⟨rfl, HB6.out⟩
    · have hq2 : ¬ most < L.length := by omega
      obtain rfl : most = L.length := by omega
      clear h hp hle2
      go_wp2_with fail
      refine HL.out.mono ?_
      rintro e w' ⟨rfl, rfl⟩
      go_wp2
      go_ret
      exact ⟨rfl, HB6.out⟩
end Go.Proofs.YtdggflkkojmabaaDoor

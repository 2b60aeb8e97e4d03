/-
  ferialaw19.SeekSome answers true for every clauses, instant and number.
-/
import Derived.Test.YtcbanlgnanihhaaGreatDoorQ7a03ca
import Derived.Test.YtcbanlgnanihhaaGreatDoorQ1e4a7c
import Derived.BigRegion
import Derived.Deep.RegionHeld3
namespace Go.Proofs.YtcbanlgnanihhaaGreatDoor
open Go.RowKit Go.Maps
set_option linter.unusedVariables false
set_option linter.unusedSimpArgs false

set_option maxRecDepth 100000 in
set_option maxHeartbeats 1600000 in
theorem Some1_any (bf bk bs g off c : Nat) (X : List Int) (k : Nat) (x : Int) (W : World) (hk : k < X.length) (hl : X.length ≤ 10000) (cf : W.cell? ⟨bf, 0, none⟩ = some (.bool true)) (ck : W.cell? ⟨bk, 0, none⟩ = some (.int .i64 (k : Nat))) (zf : W.frozen? ⟨bf, 0, none⟩ = false) (zk : W.frozen? ⟨bk, 0, none⟩ = false) (hfk : bf ≠ bk)
    (cs : W.cell? ⟨bs, 0, none⟩ = some (.slice (some ⟨g, off, none⟩) X.length c)) (cx : W.cell? ⟨g, off + k, none⟩ = some (.int .i64 x)) :
    Calls Tryz.prog 23 #[.int .i64 x, .pointer (some ⟨bf, 0, none⟩), .pointer (some ⟨bk, 0, none⟩), .pointer (some ⟨bs, 0, none⟩)] W fun e W' => e = .returned (.bool true) ∧ W' = (W.setCell ⟨bf, 0, none⟩ (.bool true)).setCell ⟨bk, 0, none⟩ (.int .i64 ((k + 1 : Nat) : Int)) := by
  obtain ⟨n, hn⟩ : ∃ n, X.length = n := ⟨_, rfl⟩
  rw [hn] at cs hk hl
  have hk1 : (k : Int) < n := by omega
  have hmin : min (k : Int) ((n : Int) - 1) = k := by omega
  have hk2 : (k : Int) + 1 = ((k + 1 : Nat) : Int) := by omega
  have Hk2 := hid hk2
  clear hn hk2
  go_enter Tryz.func23, Tryz.ntmps23
  go_wp2
  go_ret
  exact ⟨rfl, by rw [← Hk2.out]⟩
def SsJ (bf bk : Nat) : OwnF := fun k O _ W => W.cell? ⟨bf, 0, none⟩ = some (.bool true) ∧ W.frozen? ⟨bf, 0, none⟩ = false ∧ W.cell? ⟨bk, 0, none⟩ = some (.int .i64 (k : Nat)) ∧ W.frozen? ⟨bk, 0, none⟩ = false ∧ O bf ∧ O bk ∧ ∀ b, O b → b < W.heap.size
theorem ssJ_stab (bf bk : Nat) (M : Blk) : StabF M (SsJ bf bk) := fun k O F F' W W' ⟨h1, h2, h3, h4, h5, h6, h7⟩ hs hF hO =>
  ⟨(World.cell?_of_block (w := W) (a := ⟨bf, 0, none⟩) (hO bf (.inl h5))).trans h1, (World.frozen?_of_block (w := W) (a := ⟨bf, 0, none⟩) (hO bf (.inl h5))).trans h2, (World.cell?_of_block (w := W) (a := ⟨bk, 0, none⟩) (hO bk (.inl h6))).trans h3, (World.frozen?_of_block (w := W) (a := ⟨bk, 0, none⟩) (hO bk (.inl h6))).trans h4, h5, h6, fun b hb => Nat.lt_of_lt_of_le (h7 b hb) hs⟩
theorem ssJ_lt (bf bk : Nat) : LtF (SsJ bf bk) := fun k O F W h => h.2.2.2.2.2.2
theorem some1_enters (args : Array Value) (w : World) : (callFunc 23 args).run Tryz.prog w = .ok (.enter 23 args) w := by simp [go_sem]
theorem some_client {bf bk bs g off c : Nat} {X : List Int} {M : Blk} {W0 : World} (hl : X.length ≤ 10000) (hfk : bf ≠ bk) (cs : W0.cell? ⟨bs, 0, none⟩ = some (.slice (some ⟨g, off, none⟩) X.length c)) (cx : ∀ j (h : j < X.length), W0.cell? ⟨g, off + j, none⟩ = some (.int .i64 X[j]))
    (ls : bs < W0.heap.size) (lg : g < W0.heap.size) (ns : bs ≠ bf ∧ bs ≠ bk ∧ ¬ M bs) (ng : g ≠ bf ∧ g ≠ bk ∧ ¬ M g) :
    ClientH Tryz.prog (.func (.func 23) #[] #[.pointer (some ⟨bf, 0, none⟩), .pointer (some ⟨bk, 0, none⟩), .pointer (some ⟨bs, 0, none⟩)]) X.length (VInt X) M (SsJ bf bk) (fun _ _ _ _ => False) (fun b => b = bf ∨ b = bk) W0 where
  form := ⟨_, _, _, rfl⟩
  stab := ssJ_stab bf bk M
  stabx := fun _ _ _ _ _ _ h => h.elim
  lt := ssJ_lt bf bk
  ltx := fun _ _ _ _ h => h.elim
  call := by
    rintro k O F W vs hk ⟨h1, h2, h3, h4, h5, h6, h7⟩ hFO ⟨x, hx, rfl⟩ hG
    have cc : ∀ b o, b < W0.heap.size → b ≠ bf ∧ b ≠ bk ∧ ¬ M b → W.cell? ⟨b, o, none⟩ = W0.cell? ⟨b, o, none⟩ := fun b o hb h => hG.eff.cell (p := ⟨b, o, none⟩) hb (fun h' => by
      rcases h' with (h' | h') | h'
      · exact h.1 h'
      · exact h.2.1 h'
      · exact h.2.2 h')
    obtain ⟨hk', rfl⟩ := List.getElem?_eq_some_iff.1 hx
    refine .inl ⟨_, _, rfl, some1_enters, ?_⟩
    show Calls Tryz.prog 23 #[.int .i64 X[k], .pointer (some ⟨bf, 0, none⟩), .pointer (some ⟨bk, 0, none⟩), .pointer (some ⟨bs, 0, none⟩)] W _
    refine (Some1_any bf bk bs g off c X k X[k] W hk hl h1 h3 h2 h4 hfk ((cc bs 0 ls ns).trans cs) ((cc g (off + k) lg ng).trans (cx k hk))).mono fun e W' ⟨e1, e2⟩ => ?_
    subst e2
    refine ⟨O, fun _ h => h, fun _ h => .inl h, ((Eff.refl O W).set h5 _ _).set h6 _ _, .inl ⟨e1, ?_, ?_, ?_, ?_, h5, h6, fun b hb => by simpa using h7 b hb⟩⟩ <;> simp [go_sem, h1, h2, h3, h4, hfk, hfk.symm]
def SsS (bs g off : Nat) (x0 xn : Int) (c n : Nat) (W : World) : Prop := W.cell? ⟨bs, 0, none⟩ = some (.slice (some ⟨g, off, none⟩) (n + 1) c) ∧ W.cell? ⟨g, off, none⟩ = some (.int .i64 x0) ∧ W.cell? ⟨g, off + n, none⟩ = some (.int .i64 xn)
set_option maxRecDepth 100000 in
set_option maxHeartbeats 12800000 in
theorem SeekSome_walk (a : Option Addr) (cap : Nat) (l : List Cl) (t m : Int) (w : World) (hl : l.length ≤ 9223372036854775807) (hlc : l.length ≤ cap) (hs : Sl w a (cls l)) (hno : a = none → cap = 0) (hok : ∀ c ∈ l, c.Ok) (ht0 : -9223372036854775808 ≤ t) (ht1 : t ≤ 9223372036854775807) (hT : Tab w) :
    Calls Tryz.prog 4 #[.slice a l.length cap, .int .i64 t, .int .i64 m] w fun e w' => e = .returned (.bool true) ∧ Below w.heap.size w w' := by
  have cL := hid (fun W (hB : Below w.heap.size w W) => Lives19_any W (hT.later hB))
  by_cases h20 : 20 < l.length
  · clear hs hok hno hT
    have q1 := hid (cL.out w (Below.refl _ _))
    go_enter Tryz.func4, Tryz.ntmps4
    go_wp2_with fail
    refine q1.out.mono ?_
    rintro e w1 ⟨rfl, hB⟩
    have HB1 := hid (hB)
    clear hB q1 
    go_wp2
    go_ret
    exact ⟨rfl, HB1.out⟩
  by_cases h40 : 40 < m ∧ m ≤ 10000
  · obtain ⟨h41, h42⟩ := h40
    have d1 : decide (40 < m) = true := decide_eq_true h41
    have d2 : decide (m ≤ 10000) = true := decide_eq_true h42
    clear hs hok hno hT
    have q1 := hid (cL.out w (Below.refl _ _))
    go_enter Tryz.func4, Tryz.ntmps4
    go_wp2_with fail
    refine q1.out.mono ?_
    rintro e w1 ⟨rfl, hB⟩
    have HB1 := hid (hB)
    clear hB q1 
    go_wp2
    go_ret
    exact ⟨rfl, HB1.out⟩
  have hg : (decide (40 < m) && decide (m ≤ 10000)) = false := by
    rw [Bool.and_eq_false_iff, decide_eq_false_iff_not, decide_eq_false_iff_not]; omega
  have hg2 : Hid ((decide (40 < m) = true ∧ decide (m ≤ 10000) = false) ∨ decide (40 < m) = false) := by
    show _ ∨ _
    rw [decide_eq_true_eq, decide_eq_false_iff_not, decide_eq_false_iff_not]; omega
  have hl1 : l.length ≤ 1000 := by omega
  have cM := hid (fun W (hB : Below w.heap.size w W) => RMay17_any a cap l W hl1 (hs.below hB) hok)
  have cO := hid (fun W (hB : Below w.heap.size w W) => IOf_any a cap l W hl hlc (hs.below hB) hno hok)
  have cN := hid (fun (x : Int) W (hB : Below w.heap.size w W) => SkNext_any a cap l x W hl hlc (hs.below hB) hno hok (hT.later hB))
  have cA := hid (fun (f u : Int) h W (hB : Below w.heap.size w W) => SkAllC_any a cap l f u W hl hlc (hs.below hB) hno hok (hT.later hB) h)
  have q1 := hid (SkSome_any a cap l t m w hl hlc hs hno hok hT)
  have Ht0 : Hid (0 < w.heap.size) := hT.1
  clear hs hok hno hT hg
  have q1' : Hid (Calls Tryz.prog 19 #[.slice a l.length cap, .int .i64 t, .int .i64 m] w fun e w' => (∃ a1 c1, e = .returned (.tuple #[.slice a1 (someV l t m).length c1, .int .i64 (someF l m)]) ∧ Hid (Sl w' a1 (ints (someV l t m)))) ∧ Below w.heap.size w w') :=
    q1.out.mono fun e w' ⟨⟨v, h1, h2⟩, h3⟩ => by
      obtain ⟨a1, c1, rfl, h4, -⟩ := owns_form h2
      exact ⟨⟨a1, c1, h1, h4⟩, h3⟩
  clear q1
  by_cases hf : faultL l = 0
  rotate_left
  · obtain ⟨X, hX⟩ : ∃ X, faultL l = X := ⟨_, rfl⟩
    have hsf : someF l m = X := by rw [someF, if_pos hf, hX]
    have hs0 : ¬ X = 0 := by rw [← hX]; exact hf
    have hX0 : (X == 0) = false := by simpa using hs0
    have cO2 := hid (fun W (hB : Below w.heap.size w W) => (cO.out W hB).mono fun e w' h => (show (∃ v, e = .returned (.tuple #[v, .int .i64 X])) ∧ Below W.heap.size W w' from ⟨⟨_, by rw [← hX]; exact h.1.choose_spec.1⟩, h.2⟩))
    obtain ⟨V, hV⟩ : ∃ V, someV l t m = V := ⟨_, rfl⟩
    rw [hV] at q1'
    have hv0 : V = [] := by rw [← hV, someV, if_neg (by rw [hsf]; exact hs0)]
    rw [hv0, hsf] at q1'
    clear hV hv0 hsf hs0
    have cM2 := hid (fun W (hB : Below w.heap.size w W) => (cM.out W hB))
    rw [may_fault, decide_eq_false hf] at cM2
    clear cM cO cN cA hf hX
    rcases hg2.out with ⟨d1, d2⟩ | d1
    · go_enter Tryz.func4, Tryz.ntmps4
      go_wp2_with fail
      refine q1'.out.mono ?_
      rintro e w1 ⟨⟨a1, c1, rfl, hs1⟩, hB⟩
      have HB1 := hid hB
      clear hB q1'
      clear hs1
      obtain ⟨w2, hw2⟩ : ∃ w2, w1.alloc (.cells #[.slice a1 0 c1] 44) = w2 := ⟨_, rfl⟩
      have hB : Below w1.heap.size w1 w2 := by rw [← hw2]; exact below_new (Below.refl _ _) (Nat.le_refl _)
      have kS : w2.cell? ⟨w1.heap.size, 0, none⟩ = some (.slice a1 0 c1) := by rw [← hw2]; simp [go_sem]
      have lS : w1.heap.size < w2.heap.size := by rw [← hw2]; simp
      have HB2 := hid (HB1.out.trans (hB.mono HB1.out.size))
      have Hw2 := hid hw2
      obtain ⟨bs, hbs⟩ : ∃ b, w1.heap.size = b := ⟨_, rfl⟩
      have Hbs := hid hbs
      rw [hbs] at kS lS
      clear hbs hw2
      clear hB
      have hk2 : (([] : List Int).length : Int) = 0 := rfl
      go_wp2_with fail
      rw [Hw2.out, Hbs.out]
      have q3 := hid (cM2.out w2 HB2.out)
      refine q3.out.mono ?_
      rintro e w3 ⟨rfl, hB⟩
      have hB23 := hB
      have HB3 := hid (HB2.out.trans (hB.mono HB2.out.size))
      clear hB q3 

      have kS3 : w3.cell? ⟨bs, 0, none⟩ = some (.slice a1 0 c1) := (hB23.cell (p := ⟨bs, 0, none⟩) lS).trans kS
      have q4 := hid (cO2.out w3 HB3.out)
      go_wp2_with fail
      refine q4.out.mono ?_
      rintro e w4 ⟨⟨v, rfl⟩, hB⟩
      have hB34 := hB
      have HB4 := hid (HB3.out.trans (hB.mono HB3.out.size))
      clear hB q4 
      have kS4 : w4.cell? ⟨bs, 0, none⟩ = some (.slice a1 0 c1) := (hB34.cell (p := ⟨bs, 0, none⟩) (Nat.lt_of_lt_of_le lS hB23.size)).trans kS3
      have q5 := hid (cL.out w4 HB4.out)
      go_wp2_with fail
      refine q5.out.mono ?_
      rintro e w5 ⟨rfl, hB⟩
      have HB5 := hid (HB4.out.trans (hB.mono HB4.out.size))
      clear hB q5 
      go_wp2
      go_ret
      exact ⟨rfl, HB5.out⟩
    · go_enter Tryz.func4, Tryz.ntmps4
      go_wp2_with fail
      refine q1'.out.mono ?_
      rintro e w1 ⟨⟨a1, c1, rfl, hs1⟩, hB⟩
      have HB1 := hid hB
      clear hB q1'
      clear hs1
      obtain ⟨w2, hw2⟩ : ∃ w2, w1.alloc (.cells #[.slice a1 0 c1] 44) = w2 := ⟨_, rfl⟩
      have hB : Below w1.heap.size w1 w2 := by rw [← hw2]; exact below_new (Below.refl _ _) (Nat.le_refl _)
      have kS : w2.cell? ⟨w1.heap.size, 0, none⟩ = some (.slice a1 0 c1) := by rw [← hw2]; simp [go_sem]
      have lS : w1.heap.size < w2.heap.size := by rw [← hw2]; simp
      have HB2 := hid (HB1.out.trans (hB.mono HB1.out.size))
      have Hw2 := hid hw2
      obtain ⟨bs, hbs⟩ : ∃ b, w1.heap.size = b := ⟨_, rfl⟩
      have Hbs := hid hbs
      rw [hbs] at kS lS
      clear hbs hw2
      clear hB
      have hk2 : (([] : List Int).length : Int) = 0 := rfl
      go_wp2_with fail
      rw [Hw2.out, Hbs.out]
      have q3 := hid (cM2.out w2 HB2.out)
      refine q3.out.mono ?_
      rintro e w3 ⟨rfl, hB⟩
      have hB23 := hB
      have HB3 := hid (HB2.out.trans (hB.mono HB2.out.size))
      clear hB q3 

      have kS3 : w3.cell? ⟨bs, 0, none⟩ = some (.slice a1 0 c1) := (hB23.cell (p := ⟨bs, 0, none⟩) lS).trans kS
      have q4 := hid (cO2.out w3 HB3.out)
      go_wp2_with fail
      refine q4.out.mono ?_
      rintro e w4 ⟨⟨v, rfl⟩, hB⟩
      have hB34 := hB
      have HB4 := hid (HB3.out.trans (hB.mono HB3.out.size))
      clear hB q4 
      have kS4 : w4.cell? ⟨bs, 0, none⟩ = some (.slice a1 0 c1) := (hB34.cell (p := ⟨bs, 0, none⟩) (Nat.lt_of_lt_of_le lS hB23.size)).trans kS3
      have q5 := hid (cL.out w4 HB4.out)
      go_wp2_with fail
      refine q5.out.mono ?_
      rintro e w5 ⟨rfl, hB⟩
      have HB5 := hid (HB4.out.trans (hB.mono HB4.out.size))
      clear hB q5 
      go_wp2
      go_ret
      exact ⟨rfl, HB5.out⟩
  by_cases hm1 : m < 1
  · have d3 : decide (m < 1) = true := decide_eq_true hm1
    have hsf : someF l m = 1 := by rw [someF, if_neg (by simp [hf]), if_pos (.inl hm1)]
    have hs0 : ¬ (1 : Int) = 0 := by decide
    obtain ⟨V, hV⟩ : ∃ V, someV l t m = V := ⟨_, rfl⟩
    rw [hV] at q1'
    have hv0 : V = [] := by rw [← hV, someV, if_neg (by rw [hsf]; exact hs0)]
    rw [hv0, hsf] at q1'
    clear hV hv0 hsf hs0
    have cM2 := hid (fun W (hB : Below w.heap.size w W) => (cM.out W hB))
    rw [may_fault, decide_eq_true hf] at cM2
    clear cM cO cN cA hf
    rcases hg2.out with ⟨d1, d2⟩ | d1
    · go_enter Tryz.func4, Tryz.ntmps4
      go_wp2_with fail
      refine q1'.out.mono ?_
      rintro e w1 ⟨⟨a1, c1, rfl, hs1⟩, hB⟩
      have HB1 := hid hB
      clear hB q1'
      clear hs1
      obtain ⟨w2, hw2⟩ : ∃ w2, w1.alloc (.cells #[.slice a1 0 c1] 44) = w2 := ⟨_, rfl⟩
      have hB : Below w1.heap.size w1 w2 := by rw [← hw2]; exact below_new (Below.refl _ _) (Nat.le_refl _)
      have kS : w2.cell? ⟨w1.heap.size, 0, none⟩ = some (.slice a1 0 c1) := by rw [← hw2]; simp [go_sem]
      have lS : w1.heap.size < w2.heap.size := by rw [← hw2]; simp
      have HB2 := hid (HB1.out.trans (hB.mono HB1.out.size))
      have Hw2 := hid hw2
      obtain ⟨bs, hbs⟩ : ∃ b, w1.heap.size = b := ⟨_, rfl⟩
      have Hbs := hid hbs
      rw [hbs] at kS lS
      clear hbs hw2
      clear hB
      have hk2 : (([] : List Int).length : Int) = 0 := rfl
      go_wp2_with fail
      rw [Hw2.out, Hbs.out]
      have q3 := hid (cM2.out w2 HB2.out)
      refine q3.out.mono ?_
      rintro e w3 ⟨rfl, hB⟩
      have hB23 := hB
      have HB3 := hid (HB2.out.trans (hB.mono HB2.out.size))
      clear hB q3 

      have kS3 : w3.cell? ⟨bs, 0, none⟩ = some (.slice a1 0 c1) := (hB23.cell (p := ⟨bs, 0, none⟩) lS).trans kS
      have q4 := hid (cL.out w3 HB3.out)
      go_wp2_with fail
      refine q4.out.mono ?_
      rintro e w4 ⟨rfl, hB⟩
      have hB34 := hB
      have HB4 := hid (HB3.out.trans (hB.mono HB3.out.size))
      clear hB q4 
      go_wp2
      go_ret
      exact ⟨rfl, HB4.out⟩
    · go_enter Tryz.func4, Tryz.ntmps4
      go_wp2_with fail
      refine q1'.out.mono ?_
      rintro e w1 ⟨⟨a1, c1, rfl, hs1⟩, hB⟩
      have HB1 := hid hB
      clear hB q1'
      clear hs1
      obtain ⟨w2, hw2⟩ : ∃ w2, w1.alloc (.cells #[.slice a1 0 c1] 44) = w2 := ⟨_, rfl⟩
      have hB : Below w1.heap.size w1 w2 := by rw [← hw2]; exact below_new (Below.refl _ _) (Nat.le_refl _)
      have kS : w2.cell? ⟨w1.heap.size, 0, none⟩ = some (.slice a1 0 c1) := by rw [← hw2]; simp [go_sem]
      have lS : w1.heap.size < w2.heap.size := by rw [← hw2]; simp
      have HB2 := hid (HB1.out.trans (hB.mono HB1.out.size))
      have Hw2 := hid hw2
      obtain ⟨bs, hbs⟩ : ∃ b, w1.heap.size = b := ⟨_, rfl⟩
      have Hbs := hid hbs
      rw [hbs] at kS lS
      clear hbs hw2
      clear hB
      have hk2 : (([] : List Int).length : Int) = 0 := rfl
      go_wp2_with fail
      rw [Hw2.out, Hbs.out]
      have q3 := hid (cM2.out w2 HB2.out)
      refine q3.out.mono ?_
      rintro e w3 ⟨rfl, hB⟩
      have hB23 := hB
      have HB3 := hid (HB2.out.trans (hB.mono HB2.out.size))
      clear hB q3 

      have kS3 : w3.cell? ⟨bs, 0, none⟩ = some (.slice a1 0 c1) := (hB23.cell (p := ⟨bs, 0, none⟩) lS).trans kS
      have q4 := hid (cL.out w3 HB3.out)
      go_wp2_with fail
      refine q4.out.mono ?_
      rintro e w4 ⟨rfl, hB⟩
      have hB34 := hB
      have HB4 := hid (HB3.out.trans (hB.mono HB3.out.size))
      clear hB q4 
      go_wp2
      go_ret
      exact ⟨rfl, HB4.out⟩
  by_cases hm2 : 10000 < m
  · have d3 : decide (m < 1) = false := decide_eq_false hm1
    have d4 : decide (10000 < m) = true := decide_eq_true hm2
    have hsf : someF l m = 1 := by rw [someF, if_neg (by simp [hf]), if_pos (.inr hm2)]
    have hs0 : ¬ (1 : Int) = 0 := by decide
    obtain ⟨V, hV⟩ : ∃ V, someV l t m = V := ⟨_, rfl⟩
    rw [hV] at q1'
    have hv0 : V = [] := by rw [← hV, someV, if_neg (by rw [hsf]; exact hs0)]
    rw [hv0, hsf] at q1'
    clear hV hv0 hsf hs0
    have cM2 := hid (fun W (hB : Below w.heap.size w W) => (cM.out W hB))
    rw [may_fault, decide_eq_true hf] at cM2
    clear cM cO cN cA hf
    rcases hg2.out with ⟨d1, d2⟩ | d1
    · go_enter Tryz.func4, Tryz.ntmps4
      go_wp2_with fail
      refine q1'.out.mono ?_
      rintro e w1 ⟨⟨a1, c1, rfl, hs1⟩, hB⟩
      have HB1 := hid hB
      clear hB q1'
      clear hs1
      obtain ⟨w2, hw2⟩ : ∃ w2, w1.alloc (.cells #[.slice a1 0 c1] 44) = w2 := ⟨_, rfl⟩
      have hB : Below w1.heap.size w1 w2 := by rw [← hw2]; exact below_new (Below.refl _ _) (Nat.le_refl _)
      have kS : w2.cell? ⟨w1.heap.size, 0, none⟩ = some (.slice a1 0 c1) := by rw [← hw2]; simp [go_sem]
      have lS : w1.heap.size < w2.heap.size := by rw [← hw2]; simp
      have HB2 := hid (HB1.out.trans (hB.mono HB1.out.size))
      have Hw2 := hid hw2
      obtain ⟨bs, hbs⟩ : ∃ b, w1.heap.size = b := ⟨_, rfl⟩
      have Hbs := hid hbs
      rw [hbs] at kS lS
      clear hbs hw2
      clear hB
      have hk2 : (([] : List Int).length : Int) = 0 := rfl
      go_wp2_with fail
      rw [Hw2.out, Hbs.out]
      have q3 := hid (cM2.out w2 HB2.out)
      refine q3.out.mono ?_
      rintro e w3 ⟨rfl, hB⟩
      have hB23 := hB
      have HB3 := hid (HB2.out.trans (hB.mono HB2.out.size))
      clear hB q3 

      have kS3 : w3.cell? ⟨bs, 0, none⟩ = some (.slice a1 0 c1) := (hB23.cell (p := ⟨bs, 0, none⟩) lS).trans kS
      have q4 := hid (cL.out w3 HB3.out)
      go_wp2_with fail
      refine q4.out.mono ?_
      rintro e w4 ⟨rfl, hB⟩
      have hB34 := hB
      have HB4 := hid (HB3.out.trans (hB.mono HB3.out.size))
      clear hB q4 
      go_wp2
      go_ret
      exact ⟨rfl, HB4.out⟩
    · go_enter Tryz.func4, Tryz.ntmps4
      go_wp2_with fail
      refine q1'.out.mono ?_
      rintro e w1 ⟨⟨a1, c1, rfl, hs1⟩, hB⟩
      have HB1 := hid hB
      clear hB q1'
      clear hs1
      obtain ⟨w2, hw2⟩ : ∃ w2, w1.alloc (.cells #[.slice a1 0 c1] 44) = w2 := ⟨_, rfl⟩
      have hB : Below w1.heap.size w1 w2 := by rw [← hw2]; exact below_new (Below.refl _ _) (Nat.le_refl _)
      have kS : w2.cell? ⟨w1.heap.size, 0, none⟩ = some (.slice a1 0 c1) := by rw [← hw2]; simp [go_sem]
      have lS : w1.heap.size < w2.heap.size := by rw [← hw2]; simp
      have HB2 := hid (HB1.out.trans (hB.mono HB1.out.size))
      have Hw2 := hid hw2
      obtain ⟨bs, hbs⟩ : ∃ b, w1.heap.size = b := ⟨_, rfl⟩
      have Hbs := hid hbs
      rw [hbs] at kS lS
      clear hbs hw2
      clear hB
      have hk2 : (([] : List Int).length : Int) = 0 := rfl
      go_wp2_with fail
      rw [Hw2.out, Hbs.out]
      have q3 := hid (cM2.out w2 HB2.out)
      refine q3.out.mono ?_
      rintro e w3 ⟨rfl, hB⟩
      have hB23 := hB
      have HB3 := hid (HB2.out.trans (hB.mono HB2.out.size))
      clear hB q3 

      have kS3 : w3.cell? ⟨bs, 0, none⟩ = some (.slice a1 0 c1) := (hB23.cell (p := ⟨bs, 0, none⟩) lS).trans kS
      have q4 := hid (cL.out w3 HB3.out)
      go_wp2_with fail
      refine q4.out.mono ?_
      rintro e w4 ⟨rfl, hB⟩
      have hB34 := hB
      have HB4 := hid (HB3.out.trans (hB.mono HB3.out.size))
      clear hB q4 
      go_wp2
      go_ret
      exact ⟨rfl, HB4.out⟩
  have m1 : 1 ≤ m := by omega
  have m2 : m ≤ 40 := by omega
  have d1 : decide (40 < m) = false := decide_eq_false (by omega)
  have d3 : decide (m < 1) = false := decide_eq_false hm1
  have d4 : decide (10000 < m) = false := decide_eq_false hm2
  have hsf : someF l m = 0 := by rw [someF, if_neg (by simp [hf]), if_neg (by omega)]
  have hsv : someV l t m = someL l t m := by rw [someV, if_pos hsf]
  rw [hsv, hsf] at q1'
  have Hnx : Hid (∀ k (h : k < (someL l t m).length), nextP l (atI t (someL l t m) k) = ((someL l t m)[k], 0)) := fun k h => nextP_is hf (some_next h)
  have Hne : Hid (((someL l t m).length : Int) < m → nextP l (atI t (someL l t m) (someL l t m).length) = (0, 15)) := fun h => nextP_none hf fun y hy => some_end h hy
  have Hall : Hid (∀ n (h : (someL l t m).length = n + 1), instA l ((someL l t m).getD 0 0) ((someL l t m).getD n 0) = someL l t m ∧ 0 ≤ (someL l t m).getD 0 0 ∧ (someL l t m).getD n 0 < 12622780800) := fun n h => by
    have e0 : (someL l t m).getD 0 0 = (someL l t m)[0]'(by omega) := by rw [List.getD_eq_getElem?_getD, List.getElem?_eq_getElem]; rfl
    have en : (someL l t m).getD n 0 = (someL l t m)[n]'(by omega) := by rw [List.getD_eq_getElem?_getD, List.getElem?_eq_getElem]; rfl
    rw [e0, en]
    exact ⟨some_all h, (inst_win (some_next (l := l) (t := t) (many := m) (i := 0) (by omega)).1).1, (inst_win (some_next (l := l) (t := t) (many := m) (i := n) (by omega)).1).2⟩
  have hX40 : (someL l t m).length ≤ 40 := by rw [someL, List.length_take]; omega
  obtain ⟨X, hX⟩ : ∃ X, someL l t m = X := ⟨_, rfl⟩
  rw [hX] at q1' Hnx Hne Hall hX40
  have cM2 := hid (fun W (hB : Below w.heap.size w W) => (cM.out W hB))
  rw [may_fault, decide_eq_true hf] at cM2
  have Hf := hid hf
  clear hsf hsv hX cM cO hf hm1 hm2 hg2 h40
  go_enter Tryz.func4, Tryz.ntmps4
  go_wp2_with fail
  refine q1'.out.mono ?_
  rintro e w1 ⟨⟨a1, c1, rfl, hs1⟩, hB⟩
  have HB1 := hid hB
  clear hB q1'
  have Hs1 := hid hs1
  clear hs1
  obtain ⟨w2, hw2⟩ : ∃ w2, w1.alloc (.cells #[.slice a1 X.length c1] 44) = w2 := ⟨_, rfl⟩
  have hB : Below w1.heap.size w1 w2 := by rw [← hw2]; exact below_new (Below.refl _ _) (Nat.le_refl _)
  have kS : w2.cell? ⟨w1.heap.size, 0, none⟩ = some (.slice a1 X.length c1) := by rw [← hw2]; simp [go_sem]
  have lS : w1.heap.size < w2.heap.size := by rw [← hw2]; simp
  have HB2 := hid (HB1.out.trans (hB.mono HB1.out.size))
  have Hw2 := hid hw2
  obtain ⟨bs, hbs⟩ : ∃ b, w1.heap.size = b := ⟨_, rfl⟩
  have Hbs := hid hbs
  rw [hbs] at kS lS
  clear hbs hw2
  have Hs2 := hid (Hs1.out.below hB)
  clear hB
  go_wp2_with fail
  rw [Hw2.out, Hbs.out]
  have q3 := hid (cM2.out w2 HB2.out)
  refine q3.out.mono ?_
  rintro e w3 ⟨rfl, hB⟩
  have hB23 := hB
  have HB3 := hid (HB2.out.trans (hB.mono HB2.out.size))
  have kS3 : w3.cell? ⟨bs, 0, none⟩ = some (.slice a1 X.length c1) := (hB.cell (p := ⟨bs, 0, none⟩) lS).trans kS
  have lS3 : bs < w3.heap.size := Nat.lt_of_lt_of_le lS hB.size
  have Hs3 := hid (Hs2.out.below hB)
  clear hB q3 cM2
  go_wp2_with fail
  rw [show t = atI t X 0 from rfl]
  go_loopw [11, 12, 13, 14] (fun av iv _ _ wr => ∃ k : Nat, av = .int .i64 (atI t X k) ∧ iv = .int .i64 k ∧ k ≤ X.length ∧ Hid (Below w3.heap.size w3 wr)) (fun _ iv _ _ _ => X.length - (intOf iv).toNat)
  case atStart => exact ⟨0, rfl, rfl, Nat.zero_le _, Below.refl _ _⟩
  case round =>
    obtain ⟨k, rfl, rfl, hk, HB4⟩ := hrel
    have kS4 : wr.cell? ⟨bs, 0, none⟩ = some (.slice a1 X.length c1) := (HB4.out.cell (p := ⟨bs, 0, none⟩) lS3).trans kS3
    have HB04 := hid (HB3.out.trans (HB4.out.mono HB3.out.size))
    have Hs4 := hid (Hs3.out.below HB4.out)
    by_cases hkl : k < X.length
    · have qN := hid (cN.out (atI t X k) wr HB04.out)
      rw [Hnx.out k hkl] at qN
      obtain ⟨g, off, rfl, lg, hc⟩ := Hs4.out.atInt hkl
      have hsc := atI_succ t X hkl
      obtain ⟨x, hx⟩ : ∃ x, X[k] = x := ⟨_, rfl⟩
      obtain ⟨A, hA⟩ : ∃ A, atI t X k = A := ⟨_, rfl⟩
      rw [hx] at qN hsc
      rw [hA] at qN
      have cx := hc k hkl
      rw [hx] at cx
      have Hsc := hid hsc
      have hk1 : (k : Int) < X.length := by omega
      rw [hA]
      clear hc hx hsc hA
      go_wp2_with fail
      refine qN.out.mono ?_
      rintro e w5 ⟨rfl, hB5⟩
      have kS5 := (hB5.cell (p := ⟨bs, 0, none⟩) (Nat.lt_of_lt_of_le lS3 HB4.out.size)).trans kS4
      have cx5 := (hB5.cell (p := ⟨g, off + k, none⟩) lg).trans cx
      have HB5 := hid (HB4.out.trans (hB5.mono HB4.out.size))
      clear hB5 qN
      go_wp2
      exact ⟨⟨k + 1, by rw [Hsc.out], by go_num, by omega, HB5⟩, by simp [intOf]; omega⟩
    · obtain rfl : k = X.length := by omega
      clear hkl hk
      by_cases hlm : (X.length : Int) < m
      · have qN := hid (cN.out (atI t X X.length) wr HB04.out)
        rw [Hne.out hlm] at qN
        have d5 : decide ((X.length : Int) < m) = true := decide_eq_true hlm
        obtain ⟨A, hA⟩ : ∃ A, atI t X X.length = A := ⟨_, rfl⟩
        rw [hA] at qN
        rw [hA]
        clear hA hlm
        go_wp2_with fail
        refine qN.out.mono ?_
        rintro e w5 ⟨rfl, hB5⟩
        have kSW := (hB5.cell (p := ⟨bs, 0, none⟩) (Nat.lt_of_lt_of_le lS3 HB4.out.size)).trans kS4
        have lSW : bs < w5.heap.size := Nat.lt_of_lt_of_le lS3 (Nat.le_trans HB4.out.size hB5.size)
        have HsW := hid (Hs4.out.below hB5)
        have HB5 := hid (HB04.out.trans (hB5.mono HB04.out.size))
        clear hB5 qN kS4 kS3
        by_cases hX0 : X.length = 0
        · have dX : ((X.length : Int) == 0) = true := by simp [hX0]
          have dX2 : (X.length : Int) = 0 := by omega
          clear hX0
          have qL := hid (cL.out w5 HB5.out)
          go_wp2_with fail
          refine qL.out.mono ?_
          rintro e w9 ⟨rfl, hB⟩
          have HB9 := hid (HB5.out.trans (hB.mono HB5.out.size))
          clear hB qL
          go_wp2
          go_ret
          exact ⟨rfl, HB9.out⟩
        · have dX : ((X.length : Int) == 0) = false := by rw [beq_eq_false_iff_ne]; omega
          have dX2 : ¬ (X.length : Int) = 0 := by omega
          obtain ⟨n, hn⟩ : ∃ n, X.length = n + 1 := ⟨X.length - 1, by omega⟩
          obtain ⟨g, off, rfl, lg5, hc⟩ := (HsW.out).atInt (k := 0) (by omega)
          have hall := Hall.out n hn
          obtain ⟨x0, hx0⟩ : ∃ x, X.getD 0 0 = x := ⟨_, rfl⟩
          obtain ⟨xn, hxn⟩ : ∃ x, X.getD n 0 = x := ⟨_, rfl⟩
          rw [hx0, hxn] at hall
          have hl10 : X.length ≤ 10000 := by omega
          have e0 : x0 = X[0]'(by omega) := by rw [← hx0, List.getD_eq_getElem?_getD, List.getElem?_eq_getElem (show 0 < X.length by omega)]; rfl
          have en : xn = X[n]'(by omega) := by rw [← hxn, List.getD_eq_getElem?_getD, List.getElem?_eq_getElem (show n < X.length by omega)]; rfl
          have hS5 : SsS bs g off x0 xn c1 n w5.drew := ⟨by rw [← hn]; exact kSW, by have := hc 0 (by omega); rw [e0]; exact this, by rw [en]; exact hc n (by omega)⟩
          have HBd : Hid (Below w.heap.size w w5.drew) := HB5.out.drew
          have lS5 : bs < w5.drew.heap.size := lSW
          have hc5 := hid hc
          have qA := hid (cA.out x0 xn Hf.out _ HBd.out)
          have tl := fun (br bk : Nat) bps xe xf xu xr => SkTells_any (cs := l) (br := br) (bk := bk) (bps := bps) xe xf xu xr x0 xn hall.2.1 hall.2.2
          rw [hall.1] at tl
          rw [show max x0 0 = x0 by omega, show min xn 12622780799 = xn by omega] at qA
          have TL := hid tl
          have Hn := hid hn
          have hn0 : (0 : Int) < X.length := by omega
          have hn2 : (X.length : Int) - 1 = n := by omega
          have hn3 : (n : Int) < X.length := by omega
          rw [hn] at kSW
          have hn4 : ((n + 1 : Nat) : Int) - 1 = n := by omega
          have hnb : n ≤ 40 := by omega
          have hnc : (n : Int) ≤ 40 := by omega
          have hnn : (n : Int) < (n : Int) + 1 := by omega
          have hwr : IntKind.i64.wrap (n : Int) = n := by simp [IntKind.wrap, IntKind.bits, IntKind.signed]; omega
          clear tl hall e0 en hc hx0 hxn
          go_wp2_with fail
          refine wp_region_held_drew (S := SsS bs g off x0 xn c1 n) (by kernel_rfl) hS5 (fun hHeld => ?_)
          refine wpAnyH_take (i := 0) (v := ?_) rfl (by kernel_rfl) (by kernel_rfl) (by kernel_rfl) (fun _ _ _ h => h) (Or.inl ⟨by rfl, ?_⟩) (by assumption) ?_
          rotate_left
          · intro w hSw; obtain ⟨hw1, hw2, hw3⟩ := hSw; go_simp; (try with_reducible rfl)
          (try simp only [Act.put, zA, zC, zD, zE, zF])
          refine wpAnyH_take (i := 1) (v := ?_) rfl (by kernel_rfl) (by kernel_rfl) (by kernel_rfl) (fun _ _ _ h => h) (Or.inl ⟨by rfl, ?_⟩) (by assumption) ?_
          rotate_left
          · intro w hSw; obtain ⟨hw1, hw2, hw3⟩ := hSw; go_simp; (try with_reducible rfl)
          (try simp only [Act.put, zA, zB, zC, zD, zE, zF])
          refine wpAnyH_take (i := 2) (v := ?_) rfl (by kernel_rfl) (by kernel_rfl) (by kernel_rfl) (fun _ _ _ h => h) (Or.inl ⟨by rfl, ?_⟩) (by assumption) ?_
          rotate_left
          · intro w hSw; obtain ⟨hw1, hw2, hw3⟩ := hSw; go_simp; (try with_reducible rfl)
          (try simp only [Act.put, zA, zB, zC, zD, zE, zF])
          refine wpAnyH_take (i := 3) (v := ?_) rfl (by kernel_rfl) (by kernel_rfl) (by kernel_rfl) (fun _ _ _ h => h) (Or.inl ⟨by rfl, ?_⟩) (by assumption) ?_
          rotate_left
          · intro w hSw; obtain ⟨hw1, hw2, hw3⟩ := hSw; go_simp; (try with_reducible rfl)
          (try simp only [Act.put, zA, zB, zC, zD, zE, zF])
          refine wpAnyH_take (i := 4) (v := ?_) rfl (by kernel_rfl) (by kernel_rfl) (by kernel_rfl) (fun _ _ _ h => h) (Or.inl ⟨by rfl, ?_⟩) (by assumption) ?_
          rotate_left
          · intro w hSw; obtain ⟨hw1, hw2, hw3⟩ := hSw; go_simp; (try with_reducible rfl)
          (try simp only [Act.put, zA, zB, zC, zD, zE, zF])
          refine wpAnyH_take (i := 5) (v := ?_) rfl (by kernel_rfl) (by kernel_rfl) (by kernel_rfl) (fun _ _ _ h => h) (Or.inl ⟨by rfl, ?_⟩) (by assumption) ?_
          rotate_left
          · intro w hSw; obtain ⟨hw1, hw2, hw3⟩ := hSw; go_simp; (try with_reducible rfl)
          (try simp only [Act.put, zA, zB, zC, zD, zE, zF])
          refine wpAnyH_take (i := 6) (v := ?_) rfl (by kernel_rfl) (by kernel_rfl) (by kernel_rfl) (fun _ _ _ h => h) (Or.inl ⟨by rfl, ?_⟩) (by assumption) ?_
          rotate_left
          · intro w hSw; obtain ⟨hw1, hw2, hw3⟩ := hSw; go_simp; (try with_reducible rfl)
          (try simp only [Act.put, zA, zB, zC, zD, zE, zF])
          refine wpAnyH_take (i := 7) (v := ?_) rfl (by kernel_rfl) (by kernel_rfl) (by kernel_rfl) (fun _ _ _ h => h) (Or.inl ⟨by rfl, ?_⟩) (by assumption) ?_
          rotate_left
          · intro w hSw; obtain ⟨hw1, hw2, hw3⟩ := hSw; go_simp; (try with_reducible rfl)
          (try simp only [Act.put, zA, zB, zC, zD, zE, zF])
          refine wpAnyH_take (i := 8) (v := ?_) rfl (by kernel_rfl) (by kernel_rfl) (by kernel_rfl) (fun _ _ _ h => h) (Or.inl ⟨by rfl, ?_⟩) (by assumption) ?_
          rotate_left
          · intro w hSw; obtain ⟨hw1, hw2, hw3⟩ := hSw; go_simp; (try with_reducible rfl)
          (try simp only [Act.put, zA, zB, zC, zD, zE, zF])
          refine wpAnyH_take (i := 9) (v := ?_) rfl (by kernel_rfl) (by kernel_rfl) (by kernel_rfl) (fun _ _ _ h => h) (Or.inl ⟨by rfl, ?_⟩) (by assumption) ?_
          rotate_left
          · intro w hSw; obtain ⟨hw1, hw2, hw3⟩ := hSw; go_simp; (try with_reducible rfl)
          (try simp only [Act.put, zA, zB, zC, zD, zE, zF])
          refine wpAnyH_ready (rs := [10]) (by kernel_rfl) (by simp) ?_
          refine AllReadyH.cons rfl (fun K hK => ?_) AllReadyH.nil
          go_simp
          refine qA.out.mono ?_
          rintro e w6 ⟨br, bk, bps, xe, xf, xu, xr, rfl, hB6, hS6, hM6⟩
          have hSs6 : SsS bs g off x0 xn c1 n w6 := ⟨(hB6.cell (p := ⟨bs, 0, none⟩) lS5).trans hS5.1, (hB6.cell (p := ⟨g, off, none⟩) lg5).trans hS5.2.1, (hB6.cell (p := ⟨g, off + n, none⟩) lg5).trans hS5.2.2⟩
          have HB6 := hid (HBd.out.trans (hB6.mono HBd.out.size))
          have hxs6 : ∀ j (h : j < X.length), w6.cell? ⟨g, off + j, none⟩ = some (.int .i64 X[j]) := fun j h => (hB6.cell (p := ⟨g, off + j, none⟩) lg5).trans (hc5.out j h)
          have S65 : Hid (w5.heap.size ≤ w6.heap.size) := hB6.size
          have HS6 := hid hS6
          have HM6 := hid hM6
          have Hxs6 := hid hxs6
          have kS6 := hSs6.1
          clear hB6 hS6 hM6 hxs6 qA
          (try go_wp2_with fail)
          refine hK.out _ _ (by assumption) (fun hHeld => ?_)
          clear hK K
          (try simp only [Act.put, zA, zB, zC, zD, zE, zF])
          refine wpAnyH_take (i := 11) (v := ?_) rfl (by kernel_rfl) (by kernel_rfl) (by kernel_rfl) (fun _ _ _ h => h) (Or.inl ⟨by rfl, ?_⟩) (by assumption) ?_
          rotate_left
          · intro w hSw; obtain ⟨hw1, hw2, hw3⟩ := hSw; go_simp; (try with_reducible rfl)
          (try simp only [Act.put, zA, zB, zC, zD, zE, zF])
          refine wpAnyH_done (by kernel_rfl) ?_ _
          have hnil := fun (c : Array Value) W => run_eq_nilFunc (P := Tryz.prog) (t := 52) (f := .func 47) (a := #[]) (c := c) (w := W) ⟨_, _, _, Tryz.underlying52⟩
          obtain ⟨W0, hW0⟩ : ∃ W0, (w6.alloc (.cells #[.int .i64 0] 3)).alloc (.cells #[.bool true] 4) = W0 := ⟨_, rfl⟩
          have q1 : W0.cell? ⟨w6.heap.size, 0, none⟩ = some (.int .i64 0) := by rw [← hW0]; simp [go_sem]
          have q2 : W0.frozen? ⟨w6.heap.size, 0, none⟩ = false := by rw [← hW0]; simp [go_sem]
          have q5 : W0.cell? ⟨w6.heap.size + 1, 0, none⟩ = some (.bool true) := by rw [← hW0]; simp [go_sem]
          have q6 : W0.frozen? ⟨w6.heap.size + 1, 0, none⟩ = false := by rw [← hW0]; simp [go_sem]
          have q3 : W0.heap.size = w6.heap.size + 2 := by rw [← hW0]; simp
          have q4 : Below w6.heap.size w6 W0 := by rw [← hW0]; exact below_new (below_new (Below.refl _ _) (Nat.le_refl _)) (by simp)
          have hH0 := HS6.out.keep q4.size (fun b hb => q4.block b (HS6.out.lt b hb))
          have hlt6 := HS6.out.lt
          have kS0 := (q4.cell (p := ⟨bs, 0, none⟩) (by have := S65.out; simp only []; omega)).trans kS6
          have nM : ∀ b, b < w5.heap.size → ¬ RM br bk bps b := fun b hb h => by have : w5.drew.heap.size ≤ b := HM6.out b h; have e : w5.drew.heap.size = w5.heap.size := rfl; omega
          have hs65 := S65.out
          have hI := TL.out br bk bps xe xf xu xr (.func (.func 23) #[] #[.pointer (some ⟨w6.heap.size + 1, 0, none⟩), .pointer (some ⟨w6.heap.size, 0, none⟩), .pointer (some ⟨bs, 0, none⟩)])
            (SsJ (w6.heap.size + 1) w6.heap.size) (fun _ _ _ _ => False) (fun b => b = w6.heap.size + 1 ∨ b = w6.heap.size) _ W0 hH0 (fun b hb e => by have := hlt6 b hb; omega)
            (some_client (g := g) (off := off) (c := c1) (X := X) hl10 (by omega) (by rw [Hn.out]; exact kS0) (fun j h => (q4.cell (p := ⟨g, off + j, none⟩) (by simp only []; omega)).trans (Hxs6.out j h)) (by omega) (by omega) ⟨by omega, by omega, nM bs lSW⟩ ⟨by omega, by omega, nM g lg5⟩)
            ⟨q5, q6, q1, q2, .inl rfl, .inr rfl, fun b hb => by omega⟩
          have HI := hid hI
          have HW0 := hid hW0
          have HB0 := hid (HB6.out.trans (q4.mono HB6.out.size))
          have NMb := hid (nM bs lSW)
          have HMw := hid (fun b (hb : RM br bk bps b) => show w.heap.size ≤ b from Nat.le_trans HBd.out.size (HM6.out b hb))
          have L60 : Hid (w.heap.size ≤ w6.heap.size ∧ bs < w6.heap.size ∧ bs < W0.heap.size) := by have := HB6.out.size; show _ ∧ _; omega
          clear hI hW0 q1 q2 q3 q4 q5 q6 hH0 hlt6 nM hs65
          go_wp2_with fail
          rw [HW0.out]
          refine HI.out.mono ?_
          rintro e w7 ⟨⟨v7, rfl⟩, O7, F7, hG7, -, -, -, hend⟩
          rcases hend with hend | ⟨-, _, _, _, hx⟩
          rotate_left
          · exact hx.elim
          obtain ⟨-, kf7, -, kk7, -, -, -, -⟩ := hend
          rw [Hn.out] at kk7
          have kS7 := (hG7.eff.cell (p := ⟨bs, 0, none⟩) L60.out.2.2 (fun h => by
            have := L60.out.2.1
            rcases h with (h | h) | h
            · have h2 : bs = w6.heap.size + 1 := h; omega
            · have h2 : bs = w6.heap.size := h; omega
            · exact NMb.out h)).trans kS0
          have HB7 := hid (HB0.out.trans (hG7.eff.below (fun b hb => by
            have := L60.out.1
            rcases hb with (h | h) | h
            · omega
            · omega
            · exact HMw.out b h) HB0.out.size))
          have qL := hid (cL.out w7 HB7.out)
          have dn : (((n + 1 : Nat) : Int) == ((n : Int) + 1)) = true := by simp
          clear hG7 HI kS0 kS6
          go_wp2_with fail
          refine qL.out.mono ?_
          rintro e w9 ⟨rfl, hB⟩
          have HB9 := hid (HB7.out.trans (hB.mono HB7.out.size))
          clear hB qL
          go_wp2
          go_ret
          exact ⟨rfl, HB9.out⟩
      · have d5 : decide ((X.length : Int) < m) = false := decide_eq_false hlm
        have kSW := kS4
        have lSW : bs < wr.heap.size := Nat.lt_of_lt_of_le lS3 HB4.out.size
        have HsW := Hs4
        clear kS4 kS3
        by_cases hX0 : X.length = 0
        · omega
        · have dX : ((X.length : Int) == 0) = false := by rw [beq_eq_false_iff_ne]; omega
          have dX2 : ¬ (X.length : Int) = 0 := by omega
          obtain ⟨n, hn⟩ : ∃ n, X.length = n + 1 := ⟨X.length - 1, by omega⟩
          obtain ⟨g, off, rfl, lg5, hc⟩ := (HsW.out).atInt (k := 0) (by omega)
          have hall := Hall.out n hn
          obtain ⟨x0, hx0⟩ : ∃ x, X.getD 0 0 = x := ⟨_, rfl⟩
          obtain ⟨xn, hxn⟩ : ∃ x, X.getD n 0 = x := ⟨_, rfl⟩
          rw [hx0, hxn] at hall
          have hl10 : X.length ≤ 10000 := by omega
          have e0 : x0 = X[0]'(by omega) := by rw [← hx0, List.getD_eq_getElem?_getD, List.getElem?_eq_getElem (show 0 < X.length by omega)]; rfl
          have en : xn = X[n]'(by omega) := by rw [← hxn, List.getD_eq_getElem?_getD, List.getElem?_eq_getElem (show n < X.length by omega)]; rfl
          have hS5 : SsS bs g off x0 xn c1 n wr.drew := ⟨by rw [← hn]; exact kSW, by have := hc 0 (by omega); rw [e0]; exact this, by rw [en]; exact hc n (by omega)⟩
          have HBd : Hid (Below w.heap.size w wr.drew) := HB04.out.drew
          have lS5 : bs < wr.drew.heap.size := lSW
          have hc5 := hid hc
          have qA := hid (cA.out x0 xn Hf.out _ HBd.out)
          have tl := fun (br bk : Nat) bps xe xf xu xr => SkTells_any (cs := l) (br := br) (bk := bk) (bps := bps) xe xf xu xr x0 xn hall.2.1 hall.2.2
          rw [hall.1] at tl
          rw [show max x0 0 = x0 by omega, show min xn 12622780799 = xn by omega] at qA
          have TL := hid tl
          have Hn := hid hn
          have hn0 : (0 : Int) < X.length := by omega
          have hn2 : (X.length : Int) - 1 = n := by omega
          have hn3 : (n : Int) < X.length := by omega
          rw [hn] at kSW
          have hn4 : ((n + 1 : Nat) : Int) - 1 = n := by omega
          have hnb : n ≤ 40 := by omega
          have hnc : (n : Int) ≤ 40 := by omega
          have hnn : (n : Int) < (n : Int) + 1 := by omega
          have hwr : IntKind.i64.wrap (n : Int) = n := by simp [IntKind.wrap, IntKind.bits, IntKind.signed]; omega
          clear tl hall e0 en hc hx0 hxn
          have d6 : decide ((n : Int) + 1 < m) = false := decide_eq_false (by omega)
          have d7 : decide (((n + 1 : Nat) : Int) < m) = false := decide_eq_false (by omega)
          clear hlm
          go_wp2_with fail
          refine wp_region_held_drew (S := SsS bs g off x0 xn c1 n) (by kernel_rfl) hS5 (fun hHeld => ?_)
          refine wpAnyH_take (i := 0) (v := ?_) rfl (by kernel_rfl) (by kernel_rfl) (by kernel_rfl) (fun _ _ _ h => h) (Or.inl ⟨by rfl, ?_⟩) (by assumption) ?_
          rotate_left
          · intro w hSw; obtain ⟨hw1, hw2, hw3⟩ := hSw; go_simp; (try with_reducible rfl)
          (try simp only [Act.put, zA, zC, zD, zE, zF])
          refine wpAnyH_take (i := 1) (v := ?_) rfl (by kernel_rfl) (by kernel_rfl) (by kernel_rfl) (fun _ _ _ h => h) (Or.inl ⟨by rfl, ?_⟩) (by assumption) ?_
          rotate_left
          · intro w hSw; obtain ⟨hw1, hw2, hw3⟩ := hSw; go_simp; (try with_reducible rfl)
          (try simp only [Act.put, zA, zB, zC, zD, zE, zF])
          refine wpAnyH_take (i := 2) (v := ?_) rfl (by kernel_rfl) (by kernel_rfl) (by kernel_rfl) (fun _ _ _ h => h) (Or.inl ⟨by rfl, ?_⟩) (by assumption) ?_
          rotate_left
          · intro w hSw; obtain ⟨hw1, hw2, hw3⟩ := hSw; go_simp; (try with_reducible rfl)
          (try simp only [Act.put, zA, zB, zC, zD, zE, zF])
          refine wpAnyH_take (i := 3) (v := ?_) rfl (by kernel_rfl) (by kernel_rfl) (by kernel_rfl) (fun _ _ _ h => h) (Or.inl ⟨by rfl, ?_⟩) (by assumption) ?_
          rotate_left
          · intro w hSw; obtain ⟨hw1, hw2, hw3⟩ := hSw; go_simp; (try with_reducible rfl)
          (try simp only [Act.put, zA, zB, zC, zD, zE, zF])
          refine wpAnyH_take (i := 4) (v := ?_) rfl (by kernel_rfl) (by kernel_rfl) (by kernel_rfl) (fun _ _ _ h => h) (Or.inl ⟨by rfl, ?_⟩) (by assumption) ?_
          rotate_left
          · intro w hSw; obtain ⟨hw1, hw2, hw3⟩ := hSw; go_simp; (try with_reducible rfl)
          (try simp only [Act.put, zA, zB, zC, zD, zE, zF])
          refine wpAnyH_take (i := 5) (v := ?_) rfl (by kernel_rfl) (by kernel_rfl) (by kernel_rfl) (fun _ _ _ h => h) (Or.inl ⟨by rfl, ?_⟩) (by assumption) ?_
          rotate_left
          · intro w hSw; obtain ⟨hw1, hw2, hw3⟩ := hSw; go_simp; (try with_reducible rfl)
          (try simp only [Act.put, zA, zB, zC, zD, zE, zF])
          refine wpAnyH_take (i := 6) (v := ?_) rfl (by kernel_rfl) (by kernel_rfl) (by kernel_rfl) (fun _ _ _ h => h) (Or.inl ⟨by rfl, ?_⟩) (by assumption) ?_
          rotate_left
          · intro w hSw; obtain ⟨hw1, hw2, hw3⟩ := hSw; go_simp; (try with_reducible rfl)
          (try simp only [Act.put, zA, zB, zC, zD, zE, zF])
          refine wpAnyH_take (i := 7) (v := ?_) rfl (by kernel_rfl) (by kernel_rfl) (by kernel_rfl) (fun _ _ _ h => h) (Or.inl ⟨by rfl, ?_⟩) (by assumption) ?_
          rotate_left
          · intro w hSw; obtain ⟨hw1, hw2, hw3⟩ := hSw; go_simp; (try with_reducible rfl)
          (try simp only [Act.put, zA, zB, zC, zD, zE, zF])
          refine wpAnyH_take (i := 8) (v := ?_) rfl (by kernel_rfl) (by kernel_rfl) (by kernel_rfl) (fun _ _ _ h => h) (Or.inl ⟨by rfl, ?_⟩) (by assumption) ?_
          rotate_left
          · intro w hSw; obtain ⟨hw1, hw2, hw3⟩ := hSw; go_simp; (try with_reducible rfl)
          (try simp only [Act.put, zA, zB, zC, zD, zE, zF])
          refine wpAnyH_take (i := 9) (v := ?_) rfl (by kernel_rfl) (by kernel_rfl) (by kernel_rfl) (fun _ _ _ h => h) (Or.inl ⟨by rfl, ?_⟩) (by assumption) ?_
          rotate_left
          · intro w hSw; obtain ⟨hw1, hw2, hw3⟩ := hSw; go_simp; (try with_reducible rfl)
          (try simp only [Act.put, zA, zB, zC, zD, zE, zF])
          refine wpAnyH_ready (rs := [10]) (by kernel_rfl) (by simp) ?_
          refine AllReadyH.cons rfl (fun K hK => ?_) AllReadyH.nil
          go_simp
          refine qA.out.mono ?_
          rintro e w6 ⟨br, bk, bps, xe, xf, xu, xr, rfl, hB6, hS6, hM6⟩
          have hSs6 : SsS bs g off x0 xn c1 n w6 := ⟨(hB6.cell (p := ⟨bs, 0, none⟩) lS5).trans hS5.1, (hB6.cell (p := ⟨g, off, none⟩) lg5).trans hS5.2.1, (hB6.cell (p := ⟨g, off + n, none⟩) lg5).trans hS5.2.2⟩
          have HB6 := hid (HBd.out.trans (hB6.mono HBd.out.size))
          have hxs6 : ∀ j (h : j < X.length), w6.cell? ⟨g, off + j, none⟩ = some (.int .i64 X[j]) := fun j h => (hB6.cell (p := ⟨g, off + j, none⟩) lg5).trans (hc5.out j h)
          have S65 : Hid (wr.heap.size ≤ w6.heap.size) := hB6.size
          have HS6 := hid hS6
          have HM6 := hid hM6
          have Hxs6 := hid hxs6
          have kS6 := hSs6.1
          clear hB6 hS6 hM6 hxs6 qA
          (try go_wp2_with fail)
          refine hK.out _ _ (by assumption) (fun hHeld => ?_)
          clear hK K
          (try simp only [Act.put, zA, zB, zC, zD, zE, zF])
          refine wpAnyH_take (i := 11) (v := ?_) rfl (by kernel_rfl) (by kernel_rfl) (by kernel_rfl) (fun _ _ _ h => h) (Or.inl ⟨by rfl, ?_⟩) (by assumption) ?_
          rotate_left
          · intro w hSw; obtain ⟨hw1, hw2, hw3⟩ := hSw; go_simp; (try with_reducible rfl)
          (try simp only [Act.put, zA, zB, zC, zD, zE, zF])
          refine wpAnyH_done (by kernel_rfl) ?_ _
          have hnil := fun (c : Array Value) W => run_eq_nilFunc (P := Tryz.prog) (t := 52) (f := .func 47) (a := #[]) (c := c) (w := W) ⟨_, _, _, Tryz.underlying52⟩
          obtain ⟨W0, hW0⟩ : ∃ W0, (w6.alloc (.cells #[.int .i64 0] 3)).alloc (.cells #[.bool true] 4) = W0 := ⟨_, rfl⟩
          have q1 : W0.cell? ⟨w6.heap.size, 0, none⟩ = some (.int .i64 0) := by rw [← hW0]; simp [go_sem]
          have q2 : W0.frozen? ⟨w6.heap.size, 0, none⟩ = false := by rw [← hW0]; simp [go_sem]
          have q5 : W0.cell? ⟨w6.heap.size + 1, 0, none⟩ = some (.bool true) := by rw [← hW0]; simp [go_sem]
          have q6 : W0.frozen? ⟨w6.heap.size + 1, 0, none⟩ = false := by rw [← hW0]; simp [go_sem]
          have q3 : W0.heap.size = w6.heap.size + 2 := by rw [← hW0]; simp
          have q4 : Below w6.heap.size w6 W0 := by rw [← hW0]; exact below_new (below_new (Below.refl _ _) (Nat.le_refl _)) (by simp)
          have hH0 := HS6.out.keep q4.size (fun b hb => q4.block b (HS6.out.lt b hb))
          have hlt6 := HS6.out.lt
          have kS0 := (q4.cell (p := ⟨bs, 0, none⟩) (by have := S65.out; simp only []; omega)).trans kS6
          have nM : ∀ b, b < wr.heap.size → ¬ RM br bk bps b := fun b hb h => by have : wr.drew.heap.size ≤ b := HM6.out b h; have e : wr.drew.heap.size = wr.heap.size := rfl; omega
          have hs65 := S65.out
          have hI := TL.out br bk bps xe xf xu xr (.func (.func 23) #[] #[.pointer (some ⟨w6.heap.size + 1, 0, none⟩), .pointer (some ⟨w6.heap.size, 0, none⟩), .pointer (some ⟨bs, 0, none⟩)])
            (SsJ (w6.heap.size + 1) w6.heap.size) (fun _ _ _ _ => False) (fun b => b = w6.heap.size + 1 ∨ b = w6.heap.size) _ W0 hH0 (fun b hb e => by have := hlt6 b hb; omega)
            (some_client (g := g) (off := off) (c := c1) (X := X) hl10 (by omega) (by rw [Hn.out]; exact kS0) (fun j h => (q4.cell (p := ⟨g, off + j, none⟩) (by simp only []; omega)).trans (Hxs6.out j h)) (by omega) (by omega) ⟨by omega, by omega, nM bs lSW⟩ ⟨by omega, by omega, nM g lg5⟩)
            ⟨q5, q6, q1, q2, .inl rfl, .inr rfl, fun b hb => by omega⟩
          have HI := hid hI
          have HW0 := hid hW0
          have HB0 := hid (HB6.out.trans (q4.mono HB6.out.size))
          have NMb := hid (nM bs lSW)
          have HMw := hid (fun b (hb : RM br bk bps b) => show w.heap.size ≤ b from Nat.le_trans HBd.out.size (HM6.out b hb))
          have L60 : Hid (w.heap.size ≤ w6.heap.size ∧ bs < w6.heap.size ∧ bs < W0.heap.size) := by have := HB6.out.size; show _ ∧ _; omega
          clear hI hW0 q1 q2 q3 q4 q5 q6 hH0 hlt6 nM hs65
          go_wp2_with fail
          rw [HW0.out]
          refine HI.out.mono ?_
          rintro e w7 ⟨⟨v7, rfl⟩, O7, F7, hG7, -, -, -, hend⟩
          rcases hend with hend | ⟨-, _, _, _, hx⟩
          rotate_left
          · exact hx.elim
          obtain ⟨-, kf7, -, kk7, -, -, -, -⟩ := hend
          rw [Hn.out] at kk7
          have kS7 := (hG7.eff.cell (p := ⟨bs, 0, none⟩) L60.out.2.2 (fun h => by
            have := L60.out.2.1
            rcases h with (h | h) | h
            · have h2 : bs = w6.heap.size + 1 := h; omega
            · have h2 : bs = w6.heap.size := h; omega
            · exact NMb.out h)).trans kS0
          have HB7 := hid (HB0.out.trans (hG7.eff.below (fun b hb => by
            have := L60.out.1
            rcases hb with (h | h) | h
            · omega
            · omega
            · exact HMw.out b h) HB0.out.size))
          have qL := hid (cL.out w7 HB7.out)
          have dn : (((n + 1 : Nat) : Int) == ((n : Int) + 1)) = true := by simp
          clear hG7 HI kS0 kS6
          go_wp2_with fail
          refine qL.out.mono ?_
          rintro e w9 ⟨rfl, hB⟩
          have HB9 := hid (HB7.out.trans (hB.mono HB7.out.size))
          clear hB qL
          go_wp2
          go_ret
          exact ⟨rfl, HB9.out⟩
end Go.Proofs.YtcbanlgnanihhaaGreatDoor

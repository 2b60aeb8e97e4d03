/-
  span.Empty, ir.Hull: from when to when a set's clauses are.
  The law of ir.Trim: no two are the same, all of them are of the set, in order; what is in it is in the set.
  ferialaw17.IrTrims answers true.
-/
import Derived.Test.YtgiecadlliblpaaGreatIrRef
namespace Go.Proofs.YtgiecadlliblpaaGreat
open Go.RowKit
set_option linter.unusedVariables false

theorem cellsSp : Tryz.prog.cellsOf 44 = 2 := by kernel_rfl
theorem keySp : Tryz.prog.keyTypeAt 3 44 = true := by kernel_rfl
theorem formSp (f u : Int) : (spv f u).formed Tryz.prog 44 = true := by
  unfold Value.formed; simp only [Tryz.underlying44, cellsSp]; rfl
theorem lits_sp (d : Nat) {f u : Int} (hf : i64B f) (hu : i64B u) : Tryz.prog.keyLits (d + 2) 44 [.int .i64 f, .int .i64 u] = some [.int .i64 f, .int .i64 u] := by
  unfold Program.keyLits
  simp only [Tryz.underlying44]
  simp [cellsI64, cellsSp, lits_l, hf, hu]
def eqlSpS (a b : Value) : Sem Value := binOp .eql 44 a b
theorem eql_spS (a b : Value) : binOp .eql 44 a b = eqlSpS a b := rfl
theorem eqlSp_run {f u f' u' : Int} (w : World) (h1 : i64B f) (h2 : i64B u) (h3 : i64B f') (h4 : i64B u') : (eqlSpS (spv f u) (spv f' u')).run Tryz.prog w = .ok (.bool (decide (f = f' ∧ u = u'))) w := by
  obtain ⟨r, hr, hi⟩ := run_equalIn_deep 9997 3 44 keySp w 3 3 _ _ _ _ (formSp f u) (formSp f' u') (lits_sp 1 h1 h2) (lits_sp 1 h3 h4)
  have e : r = decide (f = f' ∧ u = u') := by
    rw [Bool.eq_iff_iff, hi, decide_eq_true_eq]
    simp
  rw [eqlSpS, run_eql_struct]
  have hr' : (Op.equalIn 10000 44 (spv f u) (spv f' u')).run Tryz.prog w = .ok (decide (f = f' ∧ u = u')) w := by rw [← e]; exact hr
  rw [hr']; rfl
theorem held_i64 (f u : Int) : i64B (heldF f u) ∧ i64B (heldU f u) := by
  unfold i64B
  rcases held_cases f u with ⟨e1, e2, h⟩ | ⟨e1, e2, h⟩ <;> rw [e1, e2] <;> omega
theorem held_again (f u : Int) : heldF (heldF f u) (heldU f u) = heldF f u ∧ heldU (heldF f u) (heldU f u) = heldU f u := by
  rcases held_cases f u with ⟨e1, e2, h⟩ | ⟨e1, e2, h⟩ <;> rcases held_cases (heldF f u) (heldU f u) with ⟨g1, g2, k⟩ | ⟨g1, g2, k⟩ <;> rw [g1, g2] <;> rw [e1, e2] at * <;> omega
theorem held_none (f u : Int) : decide (heldF f u = 0 ∧ heldU f u = -1) = !heldB f u := by
  rw [Bool.eq_iff_iff, decide_eq_true_eq, Bool.not_eq_true']
  rcases held_cases f u with ⟨e1, e2, h⟩ | ⟨e1, e2, h⟩
  · have hb : heldB f u = true := decide_eq_true h
    rw [e1, e2, hb]; constructor
    · intro ⟨a, b⟩; omega
    · intro h; cases h
  · have hb : heldB f u = false := decide_eq_false h
    rw [e1, e2, hb]; simp
attribute [local go_sem ↓] eql_spS
set_option maxHeartbeats 1600000 in
theorem SEmpty_any (f u : Int) (w : World) : Calls Tryz.prog 36 #[spv (heldF f u) (heldU f u)] w fun e w' => e = .returned (.bool (!heldB f u)) ∧ Below w.heap.size w w' := by
  have cH := hid (fun W => SHeld_any (heldF f u) (heldU f u) W)
  rw [(held_again f u).1, (held_again f u).2] at cH
  have cN := hid (fun W => SNone_any W)
  have hq := hid (fun W => eqlSp_run (f := heldF f u) (u := heldU f u) (f' := 0) (u' := -1) W (held_i64 f u).1 (held_i64 f u).2 ⟨by decide, by decide⟩ ⟨by decide, by decide⟩)
  rw [held_none] at hq
  obtain ⟨X, hX⟩ : ∃ X, heldF f u = X := ⟨_, rfl⟩
  obtain ⟨Y, hY⟩ : ∃ Y, heldU f u = Y := ⟨_, rfl⟩
  obtain ⟨B, hB⟩ : ∃ B, heldB f u = B := ⟨_, rfl⟩
  rw [hX, hY] at cH hq ⊢
  rw [hB] at hq ⊢
  clear hX hY hB
  go_enter Tryz.func36, Tryz.ntmps36
  go_wp2_with fail
  refine (cH.out _).mono ?_
  rintro e w1 ⟨rfl, hB1⟩
  have HB1 := hid ((below_new (Below.refl _ _) (Nat.le_refl _)).trans (hB1.mono (by simp)))
  clear hB1
  go_wp2_with fail
  refine (cN.out _).mono ?_
  rintro e w2 ⟨rfl, hB2⟩
  have HB2 : Hid (Below w.heap.size w w2) := HB1.out.trans (hB2.mono HB1.out.size)
  clear hB2
  have hq2 := hq.out w2
  go_wp2
  go_ret
  exact ⟨rfl, HB2.out⟩
def hullF (l : List Cl) : Int := l.foldl (fun a c => if heldB c.fr c.un then min a (heldF c.fr c.un) else a) 12622780800
def hullU (l : List Cl) : Int := l.foldl (fun a c => if heldB c.fr c.un then max a (heldU c.fr c.un) else a) (-1)
theorem hullF_snoc (l : List Cl) (c : Cl) : hullF (l ++ [c]) = if heldB c.fr c.un then min (hullF l) (heldF c.fr c.un) else hullF l := by rw [hullF, List.foldl_append]; rfl
theorem hullU_snoc (l : List Cl) (c : Cl) : hullU (l ++ [c]) = if heldB c.fr c.un then max (hullU l) (heldU c.fr c.un) else hullU l := by rw [hullU, List.foldl_append]; rfl
structure HuS (w : World) (W : World) : Prop where
  r0 : W.cell? ⟨w.heap.size, 0, none⟩ = some (.int .i64 0)
  r1 : W.cell? ⟨w.heap.size, 1, none⟩ = some (.int .i64 0)
  g0 : W.frozen? ⟨w.heap.size, 0, none⟩ = false
  g1 : W.frozen? ⟨w.heap.size, 1, none⟩ = false
  be : Below w.heap.size w W
  l : w.heap.size < W.heap.size
theorem HuS.keep {w W W' : World} (h : HuS w W) (hb : Below W.heap.size W W') : HuS w W' :=
  ⟨(hb.cell (p := ⟨w.heap.size, 0, none⟩) h.l).trans h.r0, (hb.cell (p := ⟨w.heap.size, 1, none⟩) h.l).trans h.r1, (hb.frozen (p := ⟨w.heap.size, 0, none⟩) h.l).trans h.g0, (hb.frozen (p := ⟨w.heap.size, 1, none⟩) h.l).trans h.g1, h.be.trans (hb.mono (by have := h.l; omega)), Nat.lt_of_lt_of_le h.l hb.size⟩
attribute [local go_sem ↓] loadAt_cl storeAt_cl
attribute [local go_sem] run_storeClS
set_option maxRecDepth 100000 in
set_option maxHeartbeats 3200000 in
theorem Hull_any (a : Option Addr) (cap : Nat) (l : List Cl) (w : World) (hl : l.length ≤ 1000) (hs : Sl w a (cls l)) :
    Calls Tryz.prog 17 #[.slice a l.length cap] w fun e w' => e = .returned (spv (heldF (hullF l) (hullU l)) (heldU (hullF l) (hullU l))) ∧ Below w.heap.size w w' := by
  have cH := hid (fun f u W => SHeld_any f u W)
  have cE := hid (fun f u W => SEmpty_any f u W)
  have Hs := hid hs
  have HI0 : Hid (HuS w (w.alloc (.cells #[.int .i64 0, .int .i64 0] 44))) := ⟨by simp [go_sem], by simp [go_sem], by simp [go_sem], by simp [go_sem], below_new (Below.refl _ _) (Nat.le_refl _), by simp⟩
  clear hs
  go_enter Tryz.func17, Tryz.ntmps17
  go_wp2_with fail
  go_loopw [3, 4, 10] (fun f u i wr => ∃ k : Nat, i = .int .i64 k ∧ k ≤ l.length ∧ f = .int .i64 (hullF (l.take k)) ∧ u = .int .i64 (hullU (l.take k)) ∧ Hid (HuS w wr)) (fun _ _ i _ => l.length - (intOf i).toNat)
  case atStart => exact ⟨0, rfl, by omega, rfl, rfl, HI0⟩
  case round =>
    obtain ⟨k, rfl, hk, rfl, rfl, HI⟩ := hrel
    obtain ⟨A, hA⟩ : ∃ x, hullF (l.take k) = x := ⟨_, rfl⟩
    obtain ⟨B, hB⟩ : ∃ x, hullU (l.take k) = x := ⟨_, rfl⟩
    by_cases hlt : k < l.length
    · have hltI : (k : Int) < l.length := by omega
      obtain ⟨b, off, rfl, hbk, hr⟩ := Hs.out.atCl hlt
      have hr' := range_below hr HI.out.be hbk
      have ts := take_snoc l k hlt
      have e1 := hullF_snoc (l.take k) l[k]
      have e2 := hullU_snoc (l.take k) l[k]
      rw [← ts, hA] at e1
      rw [← ts, hB] at e2
      obtain ⟨c, hc⟩ : ∃ c, l[k] = c := ⟨_, rfl⟩
      rw [hc] at hr' e1 e2
      rw [hA, hB]
      have le := ld_at hr'
      have hth2 : (wr.alloc (.cells zL.toArray 40)).there wr.heap.size 0 30 := there_new wr _ _
      have hn2 := below_new (o := .cells zL.toArray 40) (Below.refl wr.heap.size wr) (Nat.le_refl _)
      have hC1 : ClB (putCl (wr.alloc (.cells zL.toArray 40)) wr.heap.size (clList c)) wr.heap.size c := putCl_range _ rfl hth2
      have le1 := hC1.ld
      have hb1 : Below wr.heap.size wr (putCl (wr.alloc (.cells zL.toArray 40)) wr.heap.size (clList c)) := putCl_below hn2 (Nat.le_refl _) _
      obtain ⟨W3, hW3⟩ : ∃ W, putCl (wr.alloc (.cells zL.toArray 40)) wr.heap.size (clList c) = W := ⟨_, rfl⟩
      rw [hW3] at hC1 hb1 le1
      have HI3 := hid (HI.out.keep hb1)
      have HW3 := hid hW3
      have cS := hid (fun W => CSpan_any c W)
      have cE1 := hid (fun W => cE.out c.fr c.un W)
      obtain ⟨X, hX⟩ : ∃ X, heldF c.fr c.un = X := ⟨_, rfl⟩
      obtain ⟨Y, hY⟩ : ∃ Y, heldU c.fr c.un = Y := ⟨_, rfl⟩
      obtain ⟨E, hE⟩ : ∃ E, heldB c.fr c.un = E := ⟨_, rfl⟩
      rw [hX, hY] at cS cE1
      rw [hE] at cE1
      rw [hX, hE] at e1
      rw [hY, hE] at e2
      have E1 := hid e1
      have E2 := hid e2
      clear hA hB hr hr' ts e1 e2 hc hn2 hb1 hC1 hW3 hX hY hE
      go_upto_region 5 with fail
      rw [HW3.out]
      clear le hth2
      go_wp2_with fail
      refine (cS.out _).mono ?_
      rintro e w4 ⟨rfl, hB4⟩
      have hnw := below_new (o := .cells #[.int .i64 X, .int .i64 Y] 44) (Below.refl w4.heap.size w4) (Nat.le_refl _)
      have HI5 := hid ((HI3.out.keep hB4).keep hnw)
      obtain ⟨W5, hW5⟩ : ∃ W, w4.alloc (.cells #[.int .i64 X, .int .i64 Y] 44) = W := ⟨_, rfl⟩
      have k1 : W5.cell? ⟨w4.heap.size, 0, none⟩ = some (.int .i64 X) := by rw [← hW5]; simp [go_sem]
      have k2 : W5.cell? ⟨w4.heap.size, 1, none⟩ = some (.int .i64 Y) := by rw [← hW5]; simp [go_sem]
      have z5 : w4.heap.size < W5.heap.size := by rw [← hW5]; simp
      rw [hW5] at HI5
      have HW5 := hid hW5
      have K1 := hid k1
      have K2 := hid k2
      have Z5 := hid z5
      clear hnw hB4 hW5 le1 z5
      go_upto_region 6 with fail
      rw [HW5.out]
      go_wp2_with fail
      refine (cE1.out _).mono ?_
      rintro e w6 ⟨rfl, hB6⟩
      have HI6 := hid (HI5.out.keep hB6)
      have k1 := (hB6.cell (p := ⟨w4.heap.size, 0, none⟩) Z5.out).trans K1.out
      have k2 := (hB6.cell (p := ⟨w4.heap.size, 1, none⟩) Z5.out).trans K2.out
      clear hB6
      cases E
      · go_wp2
        exact ⟨⟨k + 1, by go_num, by omega, by rw [E1.out]; rfl, by rw [E2.out]; rfl, HI6⟩, by simp [intOf]; omega⟩
      · rcases Int.lt_or_le X A with h1 | h1 <;> rcases Int.lt_or_le B Y with h2 | h2
        all_goals
          go_upto_region 7 with fail
          go_region
          go_wp2
          exact ⟨⟨k + 1, by go_num, by omega, by rw [E1.out, if_pos True.intro]; congr 1; omega, by rw [E2.out, if_pos True.intro]; congr 1; omega, HI6.out.keep (Below.refl _ _).drew⟩, by simp [intOf]; omega⟩
    · have hltI : ¬ (k : Int) < l.length := by omega
      have hall : l.take k = l := List.take_of_length_le (by omega)
      rw [hall] at hA hB
      rw [hall, hA, hB]
      have cH1 := hid (fun W => cH.out A B W)
      obtain ⟨X, hX⟩ : ∃ X, heldF A B = X := ⟨_, rfl⟩
      obtain ⟨Y, hY⟩ : ∃ Y, heldU A B = Y := ⟨_, rfl⟩
      rw [hX, hY] at cH1
      have hpost : Hid (spv (heldF (hullF l) (hullU l)) (heldU (hullF l) (hullU l)) = spv X Y) := by show _ = _; rw [hA, hB, hX, hY]
      clear hA hB hall hX hY
      go_wp2_with fail
      refine (cH1.out _).mono ?_
      rintro e w4 ⟨rfl, hB4⟩
      have HI4 := hid (HI.out.keep hB4)
      clear hB4
      obtain ⟨r0, r1, g0, g1, -, -⟩ := HI4.out
      go_wp2
      refine bodyPost_ret (v := spv X Y) (results_cell_mid rfl _ _ w.heap.size 0 _ _ rfl (range_two r0 r1) Tryz.underlying44 rfl infoSp) rfl ⟨by rw [hpost.out], below_set (below_set HI4.out.be (Nat.le_refl _)) (Nat.le_refl _)⟩
end Go.Proofs.YtgiecadlliblpaaGreat
namespace Go.Proofs.YtgiecadlliblpaaGreat
open Go.RowKit
set_option linter.unusedVariables false

def canon (c : Cl) : Cl := { c with m := fun i => if i < 7 then c.m i else 0, od := fun i => if i < 8 then c.od i else 0, ys := fun i => if i < 7 then c.ys i else 0 }
theorem canon_list (c : Cl) : clList (canon c) = clList c := rfl
theorem cls_canon (l : List Cl) : cls (l.map canon) = cls l := by
  induction l with
  | nil => rfl
  | cons c l ih => rw [List.map_cons, show cls (canon c :: l.map canon) = clList (canon c) ++ cls (l.map canon) by simp [cls], ih, canon_list]; simp [cls]
theorem canon_ok {c : Cl} (h : c.Ok) : (canon c).Ok :=
  ⟨fun i hi => by show (if i < 7 then c.m i else 0) < _; rw [if_pos hi]; exact h.m i hi, fun i hi => by show (if i < 8 then c.od i else 0) < _; rw [if_pos hi]; exact h.od i hi, fun i hi => by show (if i < 7 then c.ys i else 0) < _; rw [if_pos hi]; exact h.ys i hi, h.oin, h.unit, h.step, h.anchor, h.fr, h.un⟩
theorem canon_same {c c' : Cl} (h : clSame (canon c) (canon c') = true) : canon c = canon c' := by
  obtain ⟨hm, hor, ⟨ho1, ho2, ho3⟩, hy, hu, hs, ha, hf, hun⟩ := (clSame_true _ _).1 h
  have e1 : (canon c).m = (canon c').m := by
    funext i
    by_cases hi : i < 7
    · exact hm i hi
    · show (if i < 7 then c.m i else 0) = (if i < 7 then c'.m i else 0); rw [if_neg hi, if_neg hi]
  have e2 : (canon c).od = (canon c').od := by
    funext i
    by_cases hi : i < 8
    · exact ho3 i hi
    · show (if i < 8 then c.od i else 0) = (if i < 8 then c'.od i else 0); rw [if_neg hi, if_neg hi]
  have e3 : (canon c).ys = (canon c').ys := by
    funext i
    by_cases hi : i < 7
    · exact hy i hi
    · show (if i < 7 then c.ys i else 0) = (if i < 7 then c'.ys i else 0); rw [if_neg hi, if_neg hi]
  revert e1 e2 e3 hor ho1 ho2 hu hs ha hf hun
  generalize canon c = x
  generalize canon c' = y
  intro e1 e2 e3 e4 e5 e6 e7 e8 e9 e10 e11
  cases x; cases y
  simp only at e1 e2 e3 e4 e5 e6 e7 e8 e9 e10 e11
  subst e1 e2 e3 e4 e5 e6 e7 e8 e9 e10 e11
  rfl
theorem same_symm (c c' : Cl) : clSame c c' = clSame c' c := by
  rw [Bool.eq_iff_iff, clSame_true, clSame_true]
  constructor
  · rintro ⟨hm, hor, ⟨ho1, ho2, ho3⟩, hy, hu, hs, ha, hf, hun⟩
    exact ⟨fun i h => (hm i h).symm, hor.symm, ⟨ho1.symm, ho2.symm, fun i h => (ho3 i h).symm⟩, fun i h => (hy i h).symm, hu.symm, hs.symm, ha.symm, hf.symm, hun.symm⟩
  · rintro ⟨hm, hor, ⟨ho1, ho2, ho3⟩, hy, hu, hs, ha, hf, hun⟩
    exact ⟨fun i h => (hm i h).symm, hor.symm, ⟨ho1.symm, ho2.symm, fun i h => (ho3 i h).symm⟩, fun i h => (hy i h).symm, hu.symm, hs.symm, ha.symm, hf.symm, hun.symm⟩
/-- of clauses that are taken canonical, the same ones are one -/
def CanL (l : List Cl) : Prop := ∀ c ∈ l, ∃ d, c = canon d
theorem canL_map (l : List Cl) : CanL (l.map canon) := fun c hc => by obtain ⟨d, _, rfl⟩ := List.mem_map.1 hc; exact ⟨d, rfl⟩
theorem CanL.eq {l : List Cl} (h : CanL l) {c c' : Cl} (hc : c ∈ l) (hc' : c' ∈ l) (hs : clSame c c' = true) : c = c' := by
  obtain ⟨d, rfl⟩ := h c hc
  obtain ⟨d', rfl⟩ := h c' hc'
  exact canon_same hs
/-- the places of those that are kept -/
def trI (l : List Cl) : Nat → List Nat
  | 0 => []
  | k + 1 => if (trP l k).any (clSame (atL l k)) || !someD (atL l k) then trI l k else trI l k ++ [k]
theorem trI_map (l : List Cl) : ∀ k, trP l k = (trI l k).map (atL l)
  | 0 => rfl
  | k + 1 => by
    rw [trP, trI]
    split
    · exact trI_map l k
    · rw [List.map_append, ← trI_map l k]; rfl
theorem trI_lt (l : List Cl) : ∀ k, ∀ i ∈ trI l k, i < k
  | 0, i, h => by cases h
  | k + 1, i, h => by
    rw [trI] at h
    split at h
    · have := trI_lt l k i h; omega
    · rcases List.mem_append.1 h with h | h
      · have := trI_lt l k i h; omega
      · rw [List.mem_singleton] at h; omega
theorem trI_pair (l : List Cl) : ∀ k, (trI l k).Pairwise (· < ·)
  | 0 => List.Pairwise.nil
  | k + 1 => by
    rw [trI]
    split
    · exact trI_pair l k
    · rw [List.pairwise_append]
      exact ⟨trI_pair l k, List.pairwise_singleton _ _, fun a ha b hb => by rw [List.mem_singleton] at hb; have := trI_lt l k a ha; omega⟩
theorem trP_pair (l : List Cl) : ∀ k, (trP l k).Pairwise (fun a b => clSame a b = false)
  | 0 => List.Pairwise.nil
  | k + 1 => by
    rw [trP]
    split
    · exact trP_pair l k
    · rename_i h
      rw [Bool.or_eq_true, not_or] at h
      have h1 : (trP l k).any (clSame (atL l k)) = false := by simpa using h.1
      rw [List.pairwise_append]
      refine ⟨trP_pair l k, List.pairwise_singleton _ _, fun a ha b hb => ?_⟩
      rw [List.mem_singleton] at hb
      rw [hb, same_symm]
      rw [List.any_eq_false] at h1
      have := h1 a ha
      simpa using this
theorem atL_mem {l : List Cl} {k : Nat} (h : k < l.length) : atL l k ∈ l := by
  rw [atL, List.getD_eq_getElem?_getD, List.getElem?_eq_getElem h]; exact List.getElem_mem _
theorem atL_get {l : List Cl} {k : Nat} (h : k < l.length) : atL l k = l[k] := by
  rw [atL, List.getD_eq_getElem?_getD, List.getElem?_eq_getElem h]; rfl
theorem trP_sub {l : List Cl} {k : Nat} (hk : k ≤ l.length) {x : Cl} (h : x ∈ trP l k) : x ∈ l := by
  rw [trI_map, List.mem_map] at h
  obtain ⟨i, hi, rfl⟩ := h
  exact atL_mem (by have := trI_lt l k i hi; omega)
theorem trP_mono (l : List Cl) (k : Nat) {x : Cl} (h : x ∈ trP l k) : x ∈ trP l (k + 1) := by
  rw [trP]; split
  · exact h
  · exact List.mem_append.2 (.inl h)
theorem trP_cov {l : List Cl} (hc : CanL l) (k : Nat) : k ≤ l.length → ∀ j, j < k → someD (atL l j) = true → atL l j ∈ trP l k := by
  induction k with
  | zero => intro _ j hj; omega
  | succ k ih =>
    intro hk j hj hs
    by_cases e : j = k
    · rw [e] at hs ⊢
      by_cases h : ((trP l k).any (clSame (atL l k)) || !someD (atL l k)) = true
      · rw [trP, if_pos h]
        rw [hs, Bool.not_true, Bool.or_false, List.any_eq_true] at h
        obtain ⟨x, hx, hsame⟩ := h
        have := hc.eq (atL_mem (by omega)) (trP_sub (by omega) hx) hsame
        rw [this]; exact hx
      · rw [trP, if_neg h]
        exact List.mem_append.2 (.inr (List.mem_singleton.2 rfl))
    · exact trP_mono l k (ih (by omega) j (by omega) hs)
theorem has_day {c : Cl} {t : Int} (h : hasC c t = true) : someD c = true ∧ heldB c.fr c.un = true ∧ heldF c.fr c.un ≤ t ∧ t ≤ heldU c.fr c.un ∧ 0 ≤ t ∧ t < 12622780800 := by
  simp only [hasC, winB, betB, Bool.and_eq_true, decide_eq_true_eq] at h
  obtain ⟨⟨w0, w1⟩, hm, ⟨b0, b1⟩, -, -, hd⟩ := h
  have hb : heldB c.fr c.un = true := decide_eq_true (by omega)
  have hF : heldF c.fr c.un = max c.fr 0 := by rw [heldF, hb, if_pos rfl]
  have hU : heldU c.fr c.un = min c.un 12622780799 := by rw [heldU, hb, if_pos rfl]
  have g1 : heldF c.fr c.un ≤ t := by omega
  have g2 : t ≤ heldU c.fr c.un := by omega
  have hlive : liveD c (t / 86400) = true := by
    have e1 : frD c ≤ t / 86400 := by unfold frD; omega
    have e2 : t / 86400 ≤ unD c := by unfold unD; omega
    rw [liveD, okD, onD, hb, hm, hd, decide_eq_true e1, decide_eq_true e2]; rfl
  have hmem : t / 86400 ∈ daysT [c] 0 146096 := daysT_mem.2 ⟨⟨by omega, by omega⟩, by rw [act_one]; exact hlive⟩
  refine ⟨?_, hb, g1, g2, by omega, by omega⟩
  rw [someD]
  cases hdd : daysT [c] 0 146096 with
  | nil => rw [hdd] at hmem; cases hmem
  | cons n l => rfl
theorem trim_has {l : List Cl} (hc : CanL l) (hm : mayL l = true) (t : Int) : hasL (trP l l.length) t = hasL l t := by
  have hm' : mayL (trP l l.length) = true := by
    rw [mayL, Bool.and_eq_true, decide_eq_true_eq] at hm ⊢
    refine ⟨by have := trP_len l l.length; omega, ?_⟩
    rw [List.all_eq_true]
    intro x hx
    exact List.all_eq_true.1 hm.2 x (trP_sub (Nat.le_refl _) hx)
  rw [hasL, hasL, hm, hm', Bool.true_and, Bool.true_and, Bool.eq_iff_iff, List.any_eq_true, List.any_eq_true]
  constructor
  · rintro ⟨x, hx, h⟩; exact ⟨x, trP_sub (Nat.le_refl _) hx, h⟩
  · rintro ⟨x, hx, h⟩
    obtain ⟨j, hj, rfl⟩ := List.mem_iff_getElem.1 hx
    refine ⟨l[j], ?_, h⟩
    rw [← atL_get hj]
    exact trP_cov hc _ (Nat.le_refl _) j hj (by rw [atL_get hj]; exact (has_day h).1)
theorem hull_fold : ∀ (l : List Cl) (a b : Int), l.foldl (fun a c => if heldB c.fr c.un then min a (heldF c.fr c.un) else a) a ≤ a ∧ b ≤ l.foldl (fun a c => if heldB c.fr c.un then max a (heldU c.fr c.un) else a) b ∧
    ∀ c ∈ l, heldB c.fr c.un = true → l.foldl (fun a c => if heldB c.fr c.un then min a (heldF c.fr c.un) else a) a ≤ heldF c.fr c.un ∧ heldU c.fr c.un ≤ l.foldl (fun a c => if heldB c.fr c.un then max a (heldU c.fr c.un) else a) b
  | [], a, b => ⟨Int.le_refl _, Int.le_refl _, by simp⟩
  | d :: l, a, b => by
    obtain ⟨h1, h2, h3⟩ := hull_fold l (if heldB d.fr d.un then min a (heldF d.fr d.un) else a) (if heldB d.fr d.un then max b (heldU d.fr d.un) else b)
    rw [List.foldl_cons, List.foldl_cons]
    have e1 : (if heldB d.fr d.un then min a (heldF d.fr d.un) else a) ≤ a := by split <;> omega
    have e2 : b ≤ (if heldB d.fr d.un then max b (heldU d.fr d.un) else b) := by split <;> omega
    refine ⟨Int.le_trans h1 e1, Int.le_trans e2 h2, fun c hc hb => ?_⟩
    rcases List.mem_cons.1 hc with e | hc
    · subst e
      have f1 : (if heldB c.fr c.un then min a (heldF c.fr c.un) else a) ≤ heldF c.fr c.un := by rw [if_pos hb]; omega
      have f2 : heldU c.fr c.un ≤ (if heldB c.fr c.un then max b (heldU c.fr c.un) else b) := by rw [if_pos hb]; omega
      exact ⟨Int.le_trans h1 f1, Int.le_trans f2 h2⟩
    · exact h3 c hc hb
theorem hull_in {l : List Cl} {t : Int} (h : hasL l t = true) : inSp (heldF (hullF l) (hullU l)) (heldU (hullF l) (hullU l)) t = true := by
  rw [hasL, Bool.and_eq_true, List.any_eq_true] at h
  obtain ⟨-, c, hc, hh⟩ := h
  obtain ⟨-, hb, g1, g2, t0, t1⟩ := has_day hh
  obtain ⟨-, -, h3⟩ := hull_fold l 12622780800 (-1)
  obtain ⟨k1, k2⟩ := h3 c hc hb
  have k1' : hullF l ≤ heldF c.fr c.un := k1
  have k2' : heldU c.fr c.un ≤ hullU l := k2
  rw [inSp, (held_again _ _).1, (held_again _ _).2, Bool.and_eq_true, decide_eq_true_eq, decide_eq_true_eq]
  rcases held_cases (hullF l) (hullU l) with ⟨e1, e2, e⟩ | ⟨e1, e2, e⟩ <;> rw [e1, e2] <;> omega
theorem neqS_run (c c' : Cl) (w : World) (h : c.Ok) (h' : c'.Ok) : (neqClS (clv c) (clv c')).run Tryz.prog w = .ok (.bool (!clSame c c')) w := by
  rw [neqClS, clv, clv, run_neq_struct]
  have := eqIn_cl c c' w h h'
  rw [clv, clv] at this
  rw [this]; rfl
end Go.Proofs.YtgiecadlliblpaaGreat
namespace Go.Proofs.YtgiecadlliblpaaGreat
open Go.RowKit
set_option linter.unusedVariables false

theorem trI_len (l : List Cl) (k : Nat) : (trI l k).length = (trP l k).length := by rw [trI_map, List.length_map]
def trJ (l : List Cl) (k : Nat) : Nat := (trI l l.length).getD k 0
theorem trJ_at {l : List Cl} {k : Nat} (hk : k < (trI l l.length).length) : trJ l k = (trI l l.length)[k] := by
  rw [trJ, List.getD_eq_getElem?_getD, List.getElem?_eq_getElem hk]; rfl
theorem trJ_ok {l : List Cl} {k : Nat} (hk : k < (trP l l.length).length) : ∃ h : trJ l k < l.length, (trP l l.length)[k] = l[trJ l k] := by
  have hk' : k < (trI l l.length).length := by rw [trI_len]; exact hk
  have hlt : trJ l k < l.length := by rw [trJ_at hk']; exact trI_lt l _ _ (List.getElem_mem hk')
  refine ⟨hlt, ?_⟩
  have h1 : (trP l l.length)[k]? = some (atL l (trJ l k)) := by
    rw [trI_map, List.getElem?_map, List.getElem?_eq_getElem hk', trJ_at hk']; rfl
  rw [List.getElem?_eq_getElem hk] at h1
  rw [← atL_get hlt]; exact Option.some.inj h1
theorem trJ_up {l : List Cl} {k : Nat} (hk : k + 1 < (trP l l.length).length) : trJ l k < trJ l (k + 1) := by
  have hk' : k + 1 < (trI l l.length).length := by rw [trI_len]; exact hk
  rw [trJ_at hk', trJ_at (by omega)]
  exact List.pairwise_iff_getElem.1 (trI_pair l l.length) k (k + 1) (by omega) hk' (by omega)
theorem trP_ne {l : List Cl} {j k : Nat} (h : j < k) (hk : k < (trP l l.length).length) : clSame ((trP l l.length)[j]'(by omega)) (trP l l.length)[k] = false :=
  List.pairwise_iff_getElem.1 (trP_pair l l.length) j k (by omega) hk h
structure TrF (w : World) (l X : List Cl) (a ax : Option Addr) (W : World) : Prop where
  sl : Sl W a (cls l)
  sx : Sl W ax (cls X)
  be : Below w.heap.size w W
theorem TrF.keep {w W W' : World} {l X : List Cl} {a ax : Option Addr} (h : TrF w l X a ax W) (hb : Below W.heap.size W W') : TrF w l X a ax W' := ⟨h.sl.below hb, h.sx.below hb, h.be.trans (hb.mono h.be.size)⟩
attribute [local go_sem ↓] loadAt_cl neq_clS eql_clS
set_option maxRecDepth 100000 in
set_option maxHeartbeats 12800000 in
theorem IrTrims_can (a : Option Addr) (cap : Nat) (l : List Cl) (t : Int) (w : World) (hl : l.length ≤ 9223372036854775807) (hs : Sl w a (cls l)) (hok : ∀ c ∈ l, c.Ok) (hcan : CanL l) :
    Calls Tryz.prog 4 #[.slice a l.length cap, .int .i64 t] w fun e w' => e = .returned (.bool true) ∧ Below w.heap.size w w' := by
  have cV := hid (fun W => Lives17_any W)
  by_cases h20 : 20 < l.length
  · have h20I : (20 : Int) < l.length := by omega
    clear hs hok hcan
    go_enter Tryz.func4, Tryz.ntmps4
    go_wp2_with fail
    refine (cV.out _).mono ?_
    rintro e w1 ⟨rfl, hB1⟩
    have HB1 := hid hB1
    clear hB1
    go_wp2
    go_ret
    exact ⟨rfl, HB1.out⟩
  have h20I : ¬ (20 : Int) < l.length := by omega
  have cT := hid (ITrim_any a cap l w hl hs hok)
  have cM := hid (fun W (h : Sl W a (cls l)) => RMay17_any a cap l W (by omega) h hok)
  cases hm : mayL l
  · rw [hm] at cT cM
    rw [if_neg Bool.false_ne_true] at cT
    have Hs := hid hs
    clear hs hok hcan hm
    go_enter Tryz.func4, Tryz.ntmps4
    go_wp2_with fail
    refine cT.out.mono ?_
    rintro e w1 ⟨⟨v, rfl, hv⟩, hB1⟩
    obtain ⟨ax, capx, rfl, -, -⟩ := owns_form hv
    rw [List.length_nil]
    have HB1 := hid hB1
    clear hv hB1
    go_wp2_with fail
    refine (cM.out _ (Hs.out.below HB1.out)).mono ?_
    rintro e w2 ⟨rfl, hB2⟩
    have HB2 := hid (HB1.out.trans (hB2.mono HB1.out.size))
    clear hB2
    go_wp2_with fail
    refine (cV.out _).mono ?_
    rintro e w3 ⟨rfl, hB3⟩
    have HB3 := hid (HB2.out.trans (hB3.mono HB2.out.size))
    clear hB3
    go_wp2
    go_ret
    exact ⟨rfl, HB3.out⟩
  · have htr := trim_has hcan hm t
    rw [hm] at cT cM
    rw [if_pos rfl] at cT
    have hmay := hid (List.all_eq_true.1 (show l.all mayC = true by rw [mayL, Bool.and_eq_true] at hm; exact hm.2))
    have hlen := trP_len l l.length
    have hsub := fun x (hx : x ∈ trP l l.length) => trP_sub (Nat.le_refl _) hx
    obtain ⟨X, hX⟩ : ∃ X, trP l l.length = X := ⟨_, rfl⟩
    obtain ⟨J, hJ⟩ : ∃ J, trJ l = J := ⟨_, rfl⟩
    have hjok : ∀ k (hk : k < X.length), ∃ h : J k < l.length, X[k] = l[J k] := by subst hX hJ; exact fun k hk => trJ_ok hk
    have hjup : Hid (∀ k, k + 1 < X.length → J k < J (k + 1)) := by subst hX hJ; exact fun k hk => trJ_up hk
    have hne : Hid (∀ j k (h : j < k) (hk : k < X.length), clSame (X[j]'(by omega)) X[k] = false) := by subst hX; exact fun j k h hk => trP_ne h hk
    rw [hX] at htr cT hlen
    simp only [hX] at hsub
    have okX : ∀ c ∈ X, c.Ok := fun c hc => hok c (hsub c hc)
    have Hjok := hid hjok
    have Hsub := hid hsub
    have cI := hid (fun ax capx W (h : Sl W ax (cls X)) => IHas_any ax capx X t W (by omega) h okX)
    rw [htr] at cI
    have cR := hid (fun W (h : Sl W a (cls l)) => RHas17_any a cap l t W (by omega) h hok)
    have cH := hid (fun W (h : Sl W a (cls l)) => Hull_any a cap l W (by omega) h)
    have cS := hid (fun W (h : hasL l t = true) => hull_in h ▸ SIn_any (heldF (hullF l) (hullU l)) (heldU (hullF l) (hullU l)) t W)
    obtain ⟨A, hA⟩ : ∃ A, heldF (hullF l) (hullU l) = A := ⟨_, rfl⟩
    obtain ⟨B, hB⟩ : ∃ B, heldU (hullF l) (hullU l) = B := ⟨_, rfl⟩
    simp only [hA, hB] at cH cS
    obtain ⟨x, hx⟩ : ∃ x, hasL l t = x := ⟨_, rfl⟩
    simp only [hx] at cI cR cS
    have cC := hid (fun c W hc => CMayCl_any c W hc)
    have Hs := hid hs
    have Hok := hid hok
    have HokX := hid okX
    have hXl : X.length ≤ l.length := hlen
    clear hs hok hcan hm hjok hsub htr hX hJ hA hB hx okX hlen
    go_enter Tryz.func4, Tryz.ntmps4
    go_wp2_with fail
    refine cT.out.mono ?_
    rintro e w1 ⟨⟨v, rfl, hv⟩, hB1⟩
    obtain ⟨ax, capx, rfl, hs1, -⟩ := owns_form hv
    have HF1 : Hid (TrF w l X a ax w1) := ⟨Hs.out.below hB1, hs1, hB1⟩
    clear hv hB1 hs1
    go_wp2_with fail
    refine (cM.out _ HF1.out.sl).mono ?_
    rintro e w2 ⟨rfl, hB2⟩
    have HF2 := hid (HF1.out.keep hB2)
    clear hB2
    go_wp2_with fail
    go_loopw [6, 7] (fun q i wr => ∃ k p : Nat, i = .int .i64 k ∧ q = .int .i64 p ∧ k ≤ X.length ∧ Hid (k < X.length → p ≤ J k) ∧ Hid (TrF w l X a ax wr)) (fun _ i _ => X.length - (intOf i).toNat)
    case atStart => exact ⟨0, 0, rfl, rfl, by omega, fun _ => Nat.zero_le _, HF2⟩
    case round =>
      obtain ⟨k, p, rfl, rfl, hk, hpj, HF⟩ := hrel
      by_cases hlt : k < X.length
      · have hltI : (k : Int) < X.length := by omega
        obtain ⟨hJl, hXk⟩ := Hjok.out k hlt
        have hpJ := hpj.out hlt
        have HXk := hid hXk
        clear hXk
        go_wp2_with fail
        go_loopw [8] (fun j wq => ∃ m : Nat, j = .int .i64 m ∧ m ≤ k ∧ Hid (TrF w l X a ax wq)) (fun j _ => k - (intOf j).toNat)
        case atStart => exact ⟨0, rfl, by omega, HF⟩
        case round =>
          obtain ⟨m, rfl, hmk, HI⟩ := hrel
          by_cases hlt2 : m < k
          · have hlt2I : (m : Int) < k := by omega
            have hmX : m < X.length := by omega
            have hmXI : (m : Int) < X.length := by omega
            obtain ⟨b, off, rfl, hbk, hr⟩ := HI.out.sx.atCl hmX
            obtain ⟨b2, off2, e2, hbk2, hr2⟩ := HI.out.sx.atCl hlt
            cases e2
            have HI2 : Hid (TrF w l X a (some ⟨b, off, none⟩) wr.drew) := HI.out.keep (Below.refl _ _).drew
            have hq := range_below hr (Below.refl wr.heap.size wr).drew hbk
            have hq2 := range_below hr2 (Below.refl wr.heap.size wr).drew hbk
            have hs := hne.out m k hlt2 hlt
            have o1 := HokX.out _ (List.getElem_mem hmX)
            have o2 := HokX.out _ (List.getElem_mem hlt)
            obtain ⟨c1, hc1⟩ : ∃ c, X[m] = c := ⟨_, rfl⟩
            obtain ⟨c2, hc2⟩ : ∃ c, X[k] = c := ⟨_, rfl⟩
            rw [hc1] at hr hq hs o1
            rw [hc2] at hr2 hq2 hs o2
            have l1 := ld_at hr
            have l2 := ld_at hr2
            have l3 := ld_at hq
            have l4 := ld_at hq2
            have heq := fun W => hs ▸ eqlS_run c1 c2 W o1 o2
            clear hr hr2 hq hq2 hs o1 o2 hc1 hc2
            go_upto_region 13 with fail
            go_region
            go_wp2
            exact ⟨⟨m + 1, by go_num, by omega, HI2⟩, by simp [intOf]; omega⟩
          · have hlt2I : ¬ (m : Int) < k := by omega
            go_wp2_with fail
            go_loopw [6] (fun q wq => ∃ p : Nat, q = .int .i64 p ∧ p ≤ J k ∧ Hid (TrF w l X a ax wq)) (fun q _ => J k - (intOf q).toNat)
            case atStart => exact ⟨p, rfl, hpJ, HI⟩
            case round =>
              obtain ⟨p2, rfl, hp2, HQ⟩ := hrel
              have hpl : p2 < l.length := by omega
              have hplI : (p2 : Int) < l.length := by omega
              have hplE : ((p2 : Int) == l.length) = false := by simp; omega
              obtain ⟨b, off, rfl, hbk, hr⟩ := HQ.out.sx.atCl hlt
              obtain ⟨b2, off2, rfl, hbk2, hr2⟩ := HQ.out.sl.atCl hpl
              have o1 := HokX.out _ (List.getElem_mem hlt)
              have o2 := Hok.out _ (List.getElem_mem hpl)
              have om := hid (hmay.out _ (Hsub.out _ (List.getElem_mem hlt)))
              have hself : Hid (p2 = J k → clSame l[p2] X[k] = true) := fun e => by subst e; rw [HXk.out, clSame_self]
              obtain ⟨c1, hc1⟩ : ∃ c, X[k] = c := ⟨_, rfl⟩
              obtain ⟨c2, hc2⟩ : ∃ c, l[p2] = c := ⟨_, rfl⟩
              rw [hc1] at hr o1 om
              rw [hc2] at hr2 o2
              rw [hc1, hc2] at hself
              have HO1 := hid o1
              have HR := hid hr
              have HK := hid hbk
              have l1 := ld_at hr
              have l2 := ld_at hr2
              have l3 := fun n => ld_at (range_below hr (below_drewN (Below.refl wr.heap.size wr) n) hbk)
              have l4 := fun n => ld_at (range_below hr2 (below_drewN (Below.refl wr.heap.size wr) n) hbk2)
              have hneq := fun W => neqS_run c2 c1 W o2 o1
              have hd : decide ((p2 : Int) < l.length) = true := decide_eq_true hplI
              cases hb : clSame c2 c1
              · rw [hb] at hneq
                have hpn : p2 ≠ J k := fun e => by have := hself.out e; rw [hb] at this; cases this
                clear hr hr2 o1 o2 hc1 hc2 hb
                go_upto_region 15 with fail
                go_quiet (fail)
                go_wp2
                exact ⟨⟨p2 + 1, by go_num, by omega, HQ.out.keep (below_drewN (Below.refl _ _) _)⟩, by simp [intOf]; omega⟩
              · rw [hb] at hneq
                clear hr hr2 o1 o2 hc1 hc2 hb
                go_upto_region 15 with fail
                go_quiet (fail)
                go_wp2_with fail
                refine (cC.out c1 _ HO1.out).mono ?_
                rintro e w3 ⟨rfl, hB3⟩
                rw [om.out]
                have HF3 := hid ((HQ.out.keep (below_drewN (Below.refl _ _) _)).keep hB3)
                clear hB3
                go_wp2
                exact ⟨⟨k + 1, p2, by go_num, rfl, by omega, hid (fun h => (by have := hjup.out k h; omega)), HF3⟩, by simp [intOf]; omega⟩
      · have hltI : ¬ (k : Int) < X.length := by omega
        go_wp2_with fail
        refine (cI.out ax capx _ HF.out.sx).mono ?_
        rintro e w3 ⟨rfl, hB⟩
        have HF3 := hid (HF.out.keep hB)
        clear hB
        go_wp2_with fail
        refine (cR.out _ HF3.out.sl).mono ?_
        rintro e w4 ⟨rfl, hB⟩
        have HF4 := hid (HF3.out.keep hB)
        clear hB
        cases x
        · go_wp2_with fail
          refine (cR.out _ HF4.out.sl).mono ?_
          rintro e w5 ⟨rfl, hB⟩
          have HF5 := hid (HF4.out.keep hB)
          clear hB
          go_wp2_with fail
          refine (cV.out _).mono ?_
          rintro e w6 ⟨rfl, hB⟩
          have HF6 := hid (HF5.out.keep hB)
          clear hB
          go_wp2
          go_ret
          exact ⟨rfl, HF6.out.be⟩
        · go_wp2_with fail
          refine (cR.out _ HF4.out.sl).mono ?_
          rintro e w5 ⟨rfl, hB⟩
          have HF5 := hid (HF4.out.keep hB)
          clear hB
          go_wp2_with fail
          refine (cH.out _ HF5.out.sl).mono ?_
          rintro e w6 ⟨rfl, hB⟩
          have HF6 := hid (HF5.out.keep hB)
          clear hB
          go_wp2_with fail
          refine (cS.out _ True.intro).mono ?_
          rintro e w7 ⟨rfl, hB⟩
          have HF7 := hid (HF6.out.keep hB)
          clear hB
          go_wp2_with fail
          refine (cV.out _).mono ?_
          rintro e w8 ⟨rfl, hB⟩
          have HF8 := hid (HF7.out.keep hB)
          clear hB
          go_wp2
          go_ret
          exact ⟨rfl, HF8.out.be⟩
theorem IrTrims_walk (a : Option Addr) (cap : Nat) (l : List Cl) (t : Int) (w : World) (hl : l.length ≤ 9223372036854775807) (hlc : l.length ≤ cap) (hs : Sl w a (cls l)) (hok : ∀ c ∈ l, c.Ok) (ht : i64B t) :
    Calls Tryz.prog 4 #[.slice a l.length cap, .int .i64 t] w fun e w' => e = .returned (.bool true) ∧ Below w.heap.size w w' := by
  have h := IrTrims_can a cap (l.map canon) t w (by rw [List.length_map]; exact hl) (by rw [cls_canon]; exact hs) (fun c hc => by obtain ⟨d, hd, rfl⟩ := List.mem_map.1 hc; exact canon_ok (hok d hd)) (canL_map l)
  rw [List.length_map] at h
  exact h
end Go.Proofs.YtgiecadlliblpaaGreat

/-
  The callback of ferialaw18.goes: a day that is told is the document's.
-/
import Derived.Test.YtcbanlgnanihhaaGreatDoorQc3d5bc
import Derived.Test.YtcbanlgnanihhaaGreatDoorQ9f5099
import Derived.Deep.RegionHeld3
namespace Go.Proofs.YtcbanlgnanihhaaGreatDoor
open Go.RowKit Go.Maps
set_option linter.unusedVariables false

/-- the callback's boxes -/
structure GoF (l : List Cl) (a : Option Addr) (cap b5 bt bl bf : Nat) (fr tt : Int) (bx : Nat) (s : Nat → Int) (W0 W : World) : Prop where
  c5 : W.cell? ⟨b5, 0, none⟩ = some (.int .i64 fr)
  ct : W.cell? ⟨bt, 0, none⟩ = some (.int .i64 tt)
  cl : W.cell? ⟨bl, 0, none⟩ = some (.slice a l.length cap)
  cf : W.cell? ⟨bf, 0, none⟩ = some (.bool true)
  ff : W.frozen? ⟨bf, 0, none⟩ = false
  sh : ShS W bx s
  be : Eff (fun b => b = bf) W0 W
  l5 : b5 < W0.heap.size
  lt : bt < W0.heap.size
  ll : bl < W0.heap.size
  lf : bf < W0.heap.size
  lx : W0.heap.size ≤ bx ∧ bx < W.heap.size
section
variable {l : List Cl} {a : Option Addr} {cap b5 bt bl bf : Nat} {fr tt : Int} {bx : Nat} {s : Nat → Int} {W0 W W' : World}
theorem GoF.keep (h : GoF l a cap b5 bt bl bf fr tt bx s W0 W) (hb : Below W.heap.size W W') : GoF l a cap b5 bt bl bf fr tt bx s W0 W' := by
  have hsz := h.be.size
  exact ⟨(hb.cell (p := ⟨b5, 0, none⟩) (Nat.lt_of_lt_of_le h.l5 hsz)).trans h.c5, (hb.cell (p := ⟨bt, 0, none⟩) (Nat.lt_of_lt_of_le h.lt hsz)).trans h.ct, (hb.cell (p := ⟨bl, 0, none⟩) (Nat.lt_of_lt_of_le h.ll hsz)).trans h.cl, (hb.cell (p := ⟨bf, 0, none⟩) (Nat.lt_of_lt_of_le h.lf hsz)).trans h.cf,
    (hb.frozen (p := ⟨bf, 0, none⟩) (Nat.lt_of_lt_of_le h.lf hsz)).trans h.ff, h.sh.below hb h.lx.2, h.be.trans (Eff.of_below (O := fun b => b = bf) hb) (fun b h => .inl h), h.l5, h.lt, h.ll, h.lf, h.lx.1, Nat.lt_of_lt_of_le h.lx.2 hb.size⟩
theorem GoF.set (h : GoF l a cap b5 bt bl bf fr tt bx s W0 W) (n5 : b5 ≠ bf) (nt : bt ≠ bf) (nl : bl ≠ bf) : GoF l a cap b5 bt bl bf fr tt bx s W0 (W.setCell ⟨bf, 0, none⟩ (.bool true)) := by
  obtain ⟨c5, ct, cl, cf, ff, ⟨s0, s1, s2, s3, s4, s5, s6, s7, s8, s9⟩, be, l5, lt, ll, lf, lx⟩ := h
  have nx : bx ≠ bf := by omega
  have e : Eff (fun b => b = bf) W (W.setCell ⟨bf, 0, none⟩ (.bool true)) := by
    have hb : Below 0 W (W.setCell ⟨bf, 0, none⟩ (.bool true)) := below_set (Below.refl _ _) (by omega)
    exact ⟨hb.os, hb.tape, hb.output, hb.size, fun k hk hn => Below.heap_setCell _ _ _ _ hn⟩
  refine ⟨by simp [go_sem, c5], by simp [go_sem, ct], by simp [go_sem, cl], by simp [go_sem, cf], by simp [go_sem, ff], ?_, be.trans e (fun b h => .inl h), l5, lt, ll, lf, by simpa using lx⟩
  exact ⟨by simp [go_sem, s0], by simp [go_sem, s1], by simp [go_sem, s2], by simp [go_sem, s3], by simp [go_sem, s4], by simp [go_sem, s5], by simp [go_sem, s6], by simp [go_sem, s7], by simp [go_sem, s8], by simp [go_sem, s9]⟩
abbrev GoP (l : List Cl) (a : Option Addr) (cap b5 bt bl bf : Nat) (fr tt : Int) (bx : Nat) (s : Nat → Int) (W0 W : World) : Prop :=
  W.cell? ⟨b5, 0, none⟩ = some (.int .i64 fr) ∧ W.cell? ⟨bt, 0, none⟩ = some (.int .i64 tt) ∧ W.cell? ⟨bl, 0, none⟩ = some (.slice a l.length cap) ∧ (W.cell? ⟨bf, 0, none⟩ = some (.bool true) ∧ W.frozen? ⟨bf, 0, none⟩ = false) ∧ ShS W bx s ∧ GoF l a cap b5 bt bl bf fr tt bx s W0 W
theorem GoF.p (h : GoF l a cap b5 bt bl bf fr tt bx s W0 W) : GoP l a cap b5 bt bl bf fr tt bx s W0 W := ⟨h.c5, h.ct, h.cl, ⟨h.cf, h.ff⟩, h.sh, h⟩
end
theorem any_len {q : Nat → Bool} (h : anyQ q = true) : 0 < (secL q).length := by
  obtain ⟨k, hk, hq⟩ := anyQ_true.1 h
  exact List.length_pos_of_mem (sel_mem.2 ⟨k, hk, hq, rfl⟩)
attribute [local go_sem ↓] eql_shS neq_shS
set_option maxRecDepth 100000 in
set_option maxHeartbeats 6400000 in
theorem Goes1_any (l : List Cl) (a : Option Addr) (cap b5 bt bl bf bg base : Nat) (fr tt : Int) (d : Nat) (xs : List Int) (k : Nat) (n : Int) (O : Nat → Prop) (W : World) (hl : l.length ≤ 1000) (hok : ∀ c ∈ l, c.Ok)
    (hn : xs[k]? = some n) (hx : xs.length ≤ 100000) (h0 : 0 ≤ n) (h1 : n < 146097) (hfr : fr ≤ n) (hto : n ≤ tt) (hq : anyQ (dayQ l n) = true) (hJ : CollK bg base xs k O W) (hf : W.cell? ⟨bf, 0, none⟩ = some (.bool true)) (hff : W.frozen? ⟨bf, 0, none⟩ = false)
    (hOf : O bf) (hfg : bf ≠ bg) (hfb : bf < base) (c5 : W.cell? ⟨b5, 0, none⟩ = some (.int .i64 fr)) (ct : W.cell? ⟨bt, 0, none⟩ = some (.int .i64 tt)) (cl : W.cell? ⟨bl, 0, none⟩ = some (.slice a l.length cap))
    (l5 : b5 < W.heap.size) (lt : bt < W.heap.size) (ll : bl < W.heap.size) (n5 : b5 ≠ bf) (nt : bt ≠ bf) (nl : bl ≠ bf)
    (hs : ∀ X, Eff (fun b => b = bf) W X → Sl X a (cls l)) (hT : ∀ X, Eff (fun b => b = bf) W X → Tab X) (hd : ∀ X, Eff (fun b => b = bf) W X → DiscO X (some d) (dayQ l n)) :
    Calls Tryz.prog 63 #[shN n, .pointer (some ⟨d, 0, none⟩), .pointer (some ⟨bf, 0, none⟩), .pointer (some ⟨b5, 0, none⟩), .pointer (some ⟨bt, 0, none⟩), .pointer (some ⟨bl, 0, none⟩), .pointer (some ⟨bg, 0, none⟩)] W fun e W' =>
      ∃ O' : Nat → Prop, (∀ b, O b → O' b) ∧ (∀ b, O' b → O b ∨ W.heap.size ≤ b) ∧ Eff O W W' ∧ e = .returned (.bool true) ∧ CollK bg base xs (k + 1) O' W' ∧ W'.cell? ⟨bf, 0, none⟩ = some (.bool true) ∧ W'.frozen? ⟨bf, 0, none⟩ = false := by
  obtain ⟨hk, hxk⟩ := List.getElem?_eq_some_iff.1 hn
  have hlf := (show bf < W.heap.size by obtain ⟨v, -, -, -, -, -, -, -, g4⟩ := hJ; exact g4 bf hOf)
  have heq := hid (fun X => eqlSh_run (shF n) X (shF_bnd h0 h1))
  have HF1 : Hid (GoF l a cap b5 bt bl bf fr tt W.heap.size (shF n) W (W.alloc (.cells (shList (shF n)).toArray 63))) := by
    have hb := below_new (o := .cells (shList (shF n)).toArray 63) (Below.refl W.heap.size W) (Nat.le_refl _)
    exact ⟨(hb.cell (p := ⟨b5, 0, none⟩) l5).trans c5, (hb.cell (p := ⟨bt, 0, none⟩) lt).trans ct, (hb.cell (p := ⟨bl, 0, none⟩) ll).trans cl, (hb.cell (p := ⟨bf, 0, none⟩) hlf).trans hf, (hb.frozen (p := ⟨bf, 0, none⟩) hlf).trans hff, shC_new W 63 _ _ _ _ _ _ _ _ _ _, Eff.of_below hb, l5, lt, ll, hlf, Nat.le_refl _, by simp⟩
  have hQl := any_len hq
  have ts := hid (take_snoc xs k hk)
  rw [hxk] at ts
  have en : shF n 0 = n := rfl
  have cS : Hid (∀ X, Calls Tryz.prog 29 #[.int .i64 (shF n 0)] X fun e w' => e = .returned (shN n) ∧ Below X.heap.size X w') := fun X => RShape_any n X h0 h1
  have cA : Hid (∀ X, Sl X a (cls l) → Calls Tryz.prog 26 #[.slice a l.length cap, .int .i64 (shF n 0)] X fun e w' => ∃ a2 m c2, e = .returned (.slice a2 m c2) ∧ Hid (m = (secL (dayQ l n)).length) ∧ Sl w' a2 (ints (secL (dayQ l n))) ∧ w'.ownsRow X.heap.size 3 1 (.slice a2 m c2) m (ints (secL (dayQ l n))) ∧ Below X.heap.size X w') :=
    fun X h => own_ret (RLapAll16_any a cap l n X hl h hok h0 h1)
  rw [← shq_shF] at cS ⊢
  have hL8 := secL_len (dayQ l n)
  obtain ⟨Q, hQe⟩ : ∃ Q, secL (dayQ l n) = Q := ⟨_, rfl⟩
  have cL := hid (fun X h => DLenO_any (some d) (dayQ l n) X h)
  have cM := hid (fun a2 c2 X hQ hT h => Same18_any (some d) (dayQ l n) a2 c2 (secL (dayQ l n)) X (by omega) hQ hT h)
  rw [decide_eq_true rfl] at cM
  rw [hQe] at cA cL cM hQl hL8
  obtain ⟨s, hsf⟩ : ∃ s, shF n = s := ⟨_, rfl⟩
  rw [hsf] at cS cA heq HF1 en ⊢
  rw [shq] at cS heq ⊢
  have hs0 : s 0 = n := en
  have a0 : 0 ≤ s 0 := by omega
  have a1 : s 0 < 146097 := by omega
  have afr : fr ≤ s 0 := by omega
  have ato : s 0 ≤ tt := by omega
  have e5 : decide (fr ≤ s 0) = true := decide_eq_true afr
  have e6 : decide (s 0 ≤ tt) = true := decide_eq_true ato
  have aQ : (0 : Int) < Q.length := by omega
  have e7 : decide ((0 : Int) < Q.length) = true := decide_eq_true aQ
  have Hs0 := hid hs0
  obtain ⟨W1, hW1⟩ : ∃ X, W.alloc (.cells (shList s).toArray 63) = X := ⟨_, rfl⟩
  rw [hW1] at HF1
  have HW1 := hid hW1
  obtain ⟨bx, hbx⟩ : ∃ b, W.heap.size = b := ⟨_, rfl⟩
  have HBx := hid hbx
  rw [hbx] at HF1
  have hLn : Hid (∀ X, GoP l a cap b5 bt bl bf fr tt bx s W X → Calls Tryz.prog 25 #[.pointer (some ⟨d, 0, none⟩)] X fun e w' => e = .returned (.int .i64 (Q.length : Nat)) ∧ GoP l a cap b5 bt bl bf fr tt bx s W w') := fun X h =>
    (cL.out X (hd X h.2.2.2.2.2.be)).mono fun e w' ⟨he, hw⟩ => ⟨he, by rw [← hw]; exact h⟩
  have hSh : Hid (∀ X, GoP l a cap b5 bt bl bf fr tt bx s W X → Calls Tryz.prog 29 #[.int .i64 (s 0)] X fun e w' => e = .returned (.agg #[.int .i64 (s 0), .int .i64 (s 1), .int .i64 (s 2), .int .i64 (s 3), .int .i64 (s 4), .int .i64 (s 5), .int .i64 (s 6), .int .i64 (s 7), .int .i64 (s 8), .int .i64 (s 9)]) ∧ GoP l a cap b5 bt bl bf fr tt bx s W w') := fun X h =>
    (cS.out X).mono fun e w' ⟨he, hb⟩ => ⟨he, (h.2.2.2.2.2.keep hb).p⟩
  have hAl : Hid (∀ X, GoP l a cap b5 bt bl bf fr tt bx s W X → Calls Tryz.prog 26 #[.slice a l.length cap, .int .i64 (s 0)] X fun e w' => ∃ a2 c2, e = .returned (.slice a2 Q.length c2) ∧ Sl w' a2 (ints Q) ∧ GoP l a cap b5 bt bl bf fr tt bx s W w') := fun X h =>
    (cA.out X (hs X h.2.2.2.2.2.be)).mono fun e w' ⟨a2, m, c2, he, hm, hsl, ho, hb⟩ => ⟨a2, c2, by rw [he, hm.out], hsl, (h.2.2.2.2.2.keep hb).p⟩
  have hSm : Hid (∀ a2 c2 X, GoP l a cap b5 bt bl bf fr tt bx s W X → Sl X a2 (ints Q) → Calls Tryz.prog 27 #[.pointer (some ⟨d, 0, none⟩), .slice a2 Q.length c2] X fun e w' => e = .returned (.bool true) ∧ GoP l a cap b5 bt bl bf fr tt bx s W w') := fun a2 c2 X h hQ =>
    (cM.out a2 c2 X hQ (hT X h.2.2.2.2.2.be) (hd X h.2.2.2.2.2.be)).mono fun e w' ⟨he, hb⟩ => ⟨he, (h.2.2.2.2.2.keep hb).p⟩
  have HJ := hid hJ
  have HOf := hid hOf
  have HN := hid (And.intro n5 (And.intro nt nl))
  have Hfb := hid hfb
  have Hfg := hid hfg
  clear hW1 hbx hn hxk h0 h1 hfr hto hq hf hff c5 ct cl l5 lt ll n5 nt nl hs hT hd cS cA cL cM en hsf hQe hJ hOf hlf hok hs0 hfb hfg
  go_enter Tryz.func63, Tryz.ntmps63
  go_upto_region 1 with fail
  rw [HW1.out, HBx.out]
  have HP1 := hid (HF1.out.keep (Below.refl _ _).drew).p
  obtain ⟨p0, p1, p2, p3, p4, p5, p6, p7, p8, p9⟩ := HF1.out.sh
  go_upto_region 2 with fail
  clear p0 p1 p2 p3 p4 p5 p6 p7 p8 p9
  refine wp_region_held_drew (S := fun X => GoP l a cap b5 bt bl bf fr tt bx s W X) (by kernel_rfl) HP1.out (fun hHeld => ?_)
  refine wpAnyH_take (i := 0) (v := ?_) rfl (by kernel_rfl) (by kernel_rfl) (by kernel_rfl) (fun _ _ _ h => h) (Or.inl ⟨by rfl, ?_⟩) (by assumption) ?_
  rotate_left
  · intro w hSw; go_simp; (try with_reducible rfl)
  (try simp only [Act.put, List.getElem_toArray, List.getElem_cons_zero, List.setIfInBounds_toArray, List.set_cons_zero, List.set_cons_succ])
  refine wpAnyH_take (i := 1) (v := ?_) rfl (by kernel_rfl) (by kernel_rfl) (by kernel_rfl) (fun _ _ _ h => h) (Or.inl ⟨by rfl, ?_⟩) (by assumption) ?_
  rotate_left
  · intro w hSw; go_simp; (try with_reducible rfl)
  (try simp only [Act.put, List.getElem_toArray, List.getElem_cons_succ, List.getElem_cons_zero, List.setIfInBounds_toArray, List.set_cons_zero, List.set_cons_succ])
  refine wpAnyH_take (i := 2) (v := ?_) rfl (by kernel_rfl) (by kernel_rfl) (by kernel_rfl) (fun _ _ _ h => h) (Or.inl ⟨by rfl, ?_⟩) (by assumption) ?_
  rotate_left
  · intro w hSw; go_simp; (try with_reducible rfl)
  (try simp only [Act.put, List.getElem_toArray, List.getElem_cons_succ, List.getElem_cons_zero, List.setIfInBounds_toArray, List.set_cons_zero, List.set_cons_succ])
  refine wpAnyH_take (i := 3) (v := ?_) rfl (by kernel_rfl) (by kernel_rfl) (by kernel_rfl) (fun _ _ _ h => h) (Or.inl ⟨by rfl, ?_⟩) (by assumption) ?_
  rotate_left
  · intro w hSw; go_simp; (try with_reducible rfl)
  (try simp only [Act.put, List.getElem_toArray, List.getElem_cons_succ, List.getElem_cons_zero, List.setIfInBounds_toArray, List.set_cons_zero, List.set_cons_succ])
  refine wpAnyH_take (i := 4) (v := ?_) rfl (by kernel_rfl) (by kernel_rfl) (by kernel_rfl) (fun _ _ _ h => h) (Or.inl ⟨by rfl, ?_⟩) (by assumption) ?_
  rotate_left
  · intro w hSw; go_simp; (try with_reducible rfl)
  (try simp only [Act.put, List.getElem_toArray, List.getElem_cons_succ, List.getElem_cons_zero, List.setIfInBounds_toArray, List.set_cons_zero, List.set_cons_succ])
  refine wpAnyH_take (i := 5) (v := ?_) rfl (by kernel_rfl) (by kernel_rfl) (by kernel_rfl) (fun _ _ _ h => h) (Or.inl ⟨by rfl, ?_⟩) (by assumption) ?_
  rotate_left
  · intro w hSw; go_simp; (try with_reducible rfl)
  (try simp only [Act.put, List.getElem_toArray, List.getElem_cons_succ, List.getElem_cons_zero, List.setIfInBounds_toArray, List.set_cons_zero, List.set_cons_succ])
  refine wpAnyH_take (i := 6) (v := ?_) rfl (by kernel_rfl) (by kernel_rfl) (by kernel_rfl) (fun _ _ _ h => h) (Or.inl ⟨by rfl, ?_⟩) (by assumption) ?_
  rotate_left
  · intro w hSw; go_simp; (try with_reducible rfl)
  (try simp only [Act.put, List.getElem_toArray, List.getElem_cons_succ, List.getElem_cons_zero, List.setIfInBounds_toArray, List.set_cons_zero, List.set_cons_succ])
  refine wpAnyH_take (i := 7) (v := ?_) rfl (by kernel_rfl) (by kernel_rfl) (by kernel_rfl) (fun _ _ _ h => h) (Or.inl ⟨by rfl, ?_⟩) (by assumption) ?_
  rotate_left
  · intro w hSw; go_simp; (try with_reducible rfl)
  (try simp only [Act.put, List.getElem_toArray, List.getElem_cons_succ, List.getElem_cons_zero, List.setIfInBounds_toArray, List.set_cons_zero, List.set_cons_succ])
  refine wpAnyH_take (i := 8) (v := ?_) rfl (by kernel_rfl) (by kernel_rfl) (by kernel_rfl) (fun _ _ _ h => h) (Or.inl ⟨by rfl, ?_⟩) (by assumption) ?_
  rotate_left
  · intro w hSw; go_simp; (try with_reducible rfl)
  (try simp only [Act.put, List.getElem_toArray, List.getElem_cons_succ, List.getElem_cons_zero, List.setIfInBounds_toArray, List.set_cons_zero, List.set_cons_succ])
  refine wpAnyH_take (i := 9) (v := ?_) rfl (by kernel_rfl) (by kernel_rfl) (by kernel_rfl) (fun _ _ _ h => h) (Or.inl ⟨by rfl, ?_⟩) (by assumption) ?_
  rotate_left
  · intro w hSw; go_simp; (try with_reducible rfl)
  (try simp only [Act.put, List.getElem_toArray, List.getElem_cons_succ, List.getElem_cons_zero, List.setIfInBounds_toArray, List.set_cons_zero, List.set_cons_succ])
  refine wpAnyH_take (i := 10) (v := ?_) rfl (by kernel_rfl) (by kernel_rfl) (by kernel_rfl) (fun _ _ _ h => h) (Or.inl ⟨by rfl, ?_⟩) (by assumption) ?_
  rotate_left
  · intro w hSw; go_simp; (try with_reducible rfl)
  (try simp only [Act.put, List.getElem_toArray, List.getElem_cons_succ, List.getElem_cons_zero, List.setIfInBounds_toArray, List.set_cons_zero, List.set_cons_succ])
  refine wpAnyH_take (i := 11) (v := ?_) rfl (by kernel_rfl) (by kernel_rfl) (by kernel_rfl) (fun _ _ _ h => h) (Or.inl ⟨by rfl, ?_⟩) (by assumption) ?_
  rotate_left
  · intro w hSw; go_simp; (try with_reducible rfl)
  (try simp only [Act.put, List.getElem_toArray, List.getElem_cons_succ, List.getElem_cons_zero, List.setIfInBounds_toArray, List.set_cons_zero, List.set_cons_succ])
  refine wpAnyH_take (i := 12) (v := ?_) rfl (by kernel_rfl) (by kernel_rfl) (by kernel_rfl) (fun _ _ _ h => h) (Or.inl ⟨by rfl, ?_⟩) (by assumption) ?_
  rotate_left
  · intro w hSw; go_simp; (try with_reducible rfl)
  (try simp only [Act.put, List.getElem_toArray, List.getElem_cons_succ, List.getElem_cons_zero, List.setIfInBounds_toArray, List.set_cons_zero, List.set_cons_succ])
  refine wpAnyH_ready (rs := [13]) (by kernel_rfl) (by simp) ?_
  refine AllReadyH.cons rfl (fun K hK => ?_) AllReadyH.nil
  go_simp
  refine (hLn.out _ (by assumption)).mono ?_; rintro e w5 ⟨rfl, hS⟩
  (try go_wp2_with fail)
  refine hK.out _ _ (by assumption) (fun hHeld => ?_)
  clear hK K
  (try simp only [Act.put, List.getElem_toArray, List.getElem_cons_succ, List.getElem_cons_zero, List.setIfInBounds_toArray, List.set_cons_zero, List.set_cons_succ])
  refine wpAnyH_take (i := 14) (v := ?_) rfl (by kernel_rfl) (by kernel_rfl) (by kernel_rfl) (fun _ _ _ h => h) (Or.inl ⟨by rfl, ?_⟩) (by assumption) ?_
  rotate_left
  · intro w hSw; go_simp; (try with_reducible rfl)
  (try simp only [Act.put, List.getElem_toArray, List.getElem_cons_succ, List.getElem_cons_zero, List.setIfInBounds_toArray, List.set_cons_zero, List.set_cons_succ])
  refine wpAnyH_take (i := 15) (v := ?_) rfl (by kernel_rfl) (by kernel_rfl) (by kernel_rfl) (fun _ _ _ h => h) (Or.inl ⟨by rfl, ?_⟩) (by assumption) ?_
  rotate_left
  · intro w hSw; go_simp; (try with_reducible rfl)
  (try simp only [Act.put, List.getElem_toArray, List.getElem_cons_succ, List.getElem_cons_zero, List.setIfInBounds_toArray, List.set_cons_zero, List.set_cons_succ])
  refine wpAnyH_take (i := 16) (v := ?_) rfl (by kernel_rfl) (by kernel_rfl) (by kernel_rfl) (fun _ _ _ h => h) (Or.inl ⟨by rfl, ?_⟩) (by assumption) ?_
  rotate_left
  · intro w hSw; go_simp; (try with_reducible rfl)
  (try simp only [Act.put, List.getElem_toArray, List.getElem_cons_succ, List.getElem_cons_zero, List.setIfInBounds_toArray, List.set_cons_zero, List.set_cons_succ])
  refine wpAnyH_take (i := 17) (v := ?_) rfl (by kernel_rfl) (by kernel_rfl) (by kernel_rfl) (fun _ _ _ h => h) (Or.inl ⟨by rfl, ?_⟩) (by assumption) ?_
  rotate_left
  · intro w hSw; go_simp; (try with_reducible rfl)
  (try simp only [Act.put, List.getElem_toArray, List.getElem_cons_succ, List.getElem_cons_zero, List.setIfInBounds_toArray, List.set_cons_zero, List.set_cons_succ])
  refine wpAnyH_take (i := 18) (v := ?_) rfl (by kernel_rfl) (by kernel_rfl) (by kernel_rfl) (fun _ _ _ h => h) (Or.inl ⟨by rfl, ?_⟩) (by assumption) ?_
  rotate_left
  · intro w hSw; go_simp; (try with_reducible rfl)
  (try simp only [Act.put, List.getElem_toArray, List.getElem_cons_succ, List.getElem_cons_zero, List.setIfInBounds_toArray, List.set_cons_zero, List.set_cons_succ])
  refine wpAnyH_take (i := 19) (v := .int .i64 (s 0)) rfl (by kernel_rfl) (by kernel_rfl) (by kernel_rfl) (fun _ _ _ h => h) (Or.inl ⟨by rfl, ?_⟩) (by assumption) ?_
  · intro w hSw; go_simp; (try (intro _; omega)); (try omega)
  (try simp only [Act.put, List.getElem_toArray, List.getElem_cons_succ, List.getElem_cons_zero, List.setIfInBounds_toArray, List.set_cons_zero, List.set_cons_succ])
  refine wpAnyH_take (i := 20) (v := .int .i64 (s 0)) rfl (by kernel_rfl) (by kernel_rfl) (by kernel_rfl) (fun _ _ _ h => h) (Or.inl ⟨by rfl, ?_⟩) (by assumption) ?_
  · intro w hSw; go_simp; (try (intro _; omega)); (try omega)
  (try simp only [Act.put, List.getElem_toArray, List.getElem_cons_succ, List.getElem_cons_zero, List.setIfInBounds_toArray, List.set_cons_zero, List.set_cons_succ])
  refine wpAnyH_ready (rs := [21]) (by kernel_rfl) (by simp) ?_
  refine AllReadyH.cons rfl (fun K hK => ?_) AllReadyH.nil
  go_simp
  refine (hSh.out _ (by assumption)).mono ?_; rintro e w5b ⟨rfl, hS⟩
  (try go_wp2_with fail)
  refine hK.out _ _ (by assumption) (fun hHeld => ?_)
  clear hK K
  (try simp only [Act.put, List.getElem_toArray, List.getElem_cons_succ, List.getElem_cons_zero, List.setIfInBounds_toArray, List.set_cons_zero, List.set_cons_succ])
  refine wpAnyH_take (i := 22) (v := ?_) rfl (by kernel_rfl) (by kernel_rfl) (by kernel_rfl) (fun _ _ _ h => h) (Or.inl ⟨by rfl, ?_⟩) (by assumption) ?_
  rotate_left
  · intro w hSw; go_simp; rw [heq.out, Result.andThen_ok]
  (try simp only [Act.put, List.getElem_toArray, List.getElem_cons_succ, List.getElem_cons_zero, List.setIfInBounds_toArray, List.set_cons_zero, List.set_cons_succ])
  refine wpAnyH_take (i := 23) (v := ?_) rfl (by kernel_rfl) (by kernel_rfl) (by kernel_rfl) (fun _ _ _ h => h) (Or.inl ⟨by rfl, ?_⟩) (by assumption) ?_
  rotate_left
  · intro w hSw; go_simp; (try with_reducible rfl)
  (try simp only [Act.put, List.getElem_toArray, List.getElem_cons_succ, List.getElem_cons_zero, List.setIfInBounds_toArray, List.set_cons_zero, List.set_cons_succ])
  refine wpAnyH_take (i := 24) (v := ?_) rfl (by kernel_rfl) (by kernel_rfl) (by kernel_rfl) (fun _ _ _ h => h) (Or.inl ⟨by rfl, ?_⟩) (by assumption) ?_
  rotate_left
  · intro w hSw; go_simp; (try with_reducible rfl)
  (try simp only [Act.put, List.getElem_toArray, List.getElem_cons_succ, List.getElem_cons_zero, List.setIfInBounds_toArray, List.set_cons_zero, List.set_cons_succ])
  refine wpAnyH_take (i := 25) (v := ?_) rfl (by kernel_rfl) (by kernel_rfl) (by kernel_rfl) (fun _ _ _ h => h) (Or.inl ⟨by rfl, ?_⟩) (by assumption) ?_
  rotate_left
  · intro w hSw; go_simp; (try with_reducible rfl)
  (try simp only [Act.put, List.getElem_toArray, List.getElem_cons_succ, List.getElem_cons_zero, List.setIfInBounds_toArray, List.set_cons_zero, List.set_cons_succ])
  refine wpAnyH_take (i := 26) (v := ?_) rfl (by kernel_rfl) (by kernel_rfl) (by kernel_rfl) (fun _ _ _ h => h) (Or.inl ⟨by rfl, ?_⟩) (by assumption) ?_
  rotate_left
  · intro w hSw; go_simp; (try with_reducible rfl)
  (try simp only [Act.put, List.getElem_toArray, List.getElem_cons_succ, List.getElem_cons_zero, List.setIfInBounds_toArray, List.set_cons_zero, List.set_cons_succ])
  refine wpAnyH_take (i := 27) (v := ?_) rfl (by kernel_rfl) (by kernel_rfl) (by kernel_rfl) (fun _ _ _ h => h) (Or.inl ⟨by rfl, ?_⟩) (by assumption) ?_
  rotate_left
  · intro w hSw; go_simp; (try with_reducible rfl)
  (try simp only [Act.put, List.getElem_toArray, List.getElem_cons_succ, List.getElem_cons_zero, List.setIfInBounds_toArray, List.set_cons_zero, List.set_cons_succ])
  refine wpAnyH_take (i := 28) (v := .int .i64 (s 0)) rfl (by kernel_rfl) (by kernel_rfl) (by kernel_rfl) (fun _ _ _ h => h) (Or.inl ⟨by rfl, ?_⟩) (by assumption) ?_
  · intro w hSw; go_simp; (try (intro _; omega)); (try omega)
  (try simp only [Act.put, List.getElem_toArray, List.getElem_cons_succ, List.getElem_cons_zero, List.setIfInBounds_toArray, List.set_cons_zero, List.set_cons_succ])
  refine wpAnyH_take (i := 29) (v := .int .i64 (s 0)) rfl (by kernel_rfl) (by kernel_rfl) (by kernel_rfl) (fun _ _ _ h => h) (Or.inl ⟨by rfl, ?_⟩) (by assumption) ?_
  · intro w hSw; go_simp; (try (intro _; omega)); (try omega)
  (try simp only [Act.put, List.getElem_toArray, List.getElem_cons_succ, List.getElem_cons_zero, List.setIfInBounds_toArray, List.set_cons_zero, List.set_cons_succ])
  refine wpAnyH_ready (rs := [30]) (by kernel_rfl) (by simp) ?_
  refine AllReadyH.cons rfl (fun K hK => ?_) AllReadyH.nil
  go_simp
  refine (hAl.out _ (by assumption)).mono ?_; rintro e w6 ⟨a2, c2, rfl, hQ, hS⟩
  (try go_wp2_with fail)
  refine hK.out _ _ (by assumption) (fun hHeld => ?_)
  clear hK K
  (try simp only [Act.put, List.getElem_toArray, List.getElem_cons_succ, List.getElem_cons_zero, List.setIfInBounds_toArray, List.set_cons_zero, List.set_cons_succ])
  refine wpAnyH_ready (rs := [31]) (by kernel_rfl) (by simp) ?_
  refine AllReadyH.cons rfl (fun K hK => ?_) AllReadyH.nil
  go_simp
  refine (hSm.out a2 c2 _ (by assumption) hQ).mono ?_; rintro e w7 ⟨rfl, hS⟩
  (try go_wp2_with fail)
  refine hK.out _ _ (by assumption) (fun hHeld => ?_)
  clear hK K
  (try simp only [Act.put, List.getElem_toArray, List.getElem_cons_succ, List.getElem_cons_zero, List.setIfInBounds_toArray, List.set_cons_zero, List.set_cons_succ])
  refine wpAnyH_take (i := 32) (v := ?_) rfl (by kernel_rfl) (by kernel_rfl) (by kernel_rfl) (fun _ _ _ h => h) (Or.inl ⟨by rfl, ?_⟩) (by assumption) ?_
  rotate_left
  · intro w hSw; go_simp; (try with_reducible rfl)
  (try simp only [Act.put, List.getElem_toArray, List.getElem_cons_succ, List.getElem_cons_zero, List.setIfInBounds_toArray, List.set_cons_zero, List.set_cons_succ])
  have HS6 := (‹GoP l a cap b5 bt bl bf fr tt bx s W _›).2.2.2.2.2
  have HS7 := hid (HS6.set HN.out.1 HN.out.2.1 HN.out.2.2)
  have p2 := HS6.cf
  have p3 := HS6.ff
  refine wpAnyH_ready (rs := [33]) (by kernel_rfl) (by simp) ?_
  refine AllReadyH.cons rfl (fun K hK => ?_) AllReadyH.nil
  clear HS6
  go_simp
  refine hK.out _ _ HS7.out.p (fun hHeld => ?_)
  clear hK K p2 p3
  refine wpAnyH_done (by kernel_rfl) ?_ _
  clear hHeld
  obtain ⟨W7, hW7⟩ : ∃ X, w7.setCell ⟨bf, 0, none⟩ (.bool true) = X := ⟨_, rfl⟩
  rw [hW7] at HS7 ⊢
  clear hW7
  obtain ⟨v, k1, k3, k4, k5, k8, g1, g3, g4⟩ := HJ.out
  have hE7 := HS7.out.be
  have hsz7 := hE7.size
  have hvb : ∀ b, v.ownBlock = some b → b ≠ bf := fun b hb e => by have := (owns_lt k3 hb).1; have := Hfb.out; omega
  have own7 : W7.ownsRow base 3 1 v k (ints (xs.take k)) := owns_agree k3 (fun b hb => hE7.block b (owns_lt k3 hb).2 (hvb b hb))
  have cg7 : W7.cell? ⟨bg, 0, none⟩ = some v := (hE7.cell (p := ⟨bg, 0, none⟩) (g4 _ g1) (fun e => Hfg.out e.symm)).trans k1
  have fg7 : W7.frozen? ⟨bg, 0, none⟩ = false := (hE7.frozen (p := ⟨bg, 0, none⟩) (g4 _ g1) (fun e => Hfg.out e.symm)).trans k4
  obtain ⟨a7, cap7, rfl, -, hcap⟩ := owns_form own7
  have H7 := hid own7
  have G := hid (And.intro g1 (And.intro g3 g4))
  have HE7 := hid hE7
  obtain ⟨p0, p1, p2, p3, p4, p5, p6, p7, p8, p9⟩ := HS7.out.sh
  have hb7 : base ≤ W7.heap.size := by omega
  clear k1 k3 k4 g1 g3 g4 hE7 own7 hvb
  go_wp2_with (at_builtin; refine app1 eInt (.tmp 46) (.tmp 49) rfl rfl rfl rfl rfl H7.out rfl (by omega) (by omega) hb7 ?_)
  intro a' cap' w9 hown hg hb hfr9
  have e1 := grown_cell hg cg7 (fun e => by have := owns_lt H7.out e; omega)
  have hfz : w9.frozen? ⟨bg, 0, none⟩ = false := (hb.frozen (p := ⟨bg, 0, none⟩) k5).trans fg7
  have ebf : w9.cell? ⟨bf, 0, none⟩ = some (.bool true) := (hb.cell (p := ⟨bf, 0, none⟩) Hfb.out).trans HS7.out.cf
  have fbf : w9.frozen? ⟨bf, 0, none⟩ = false := (hb.frozen (p := ⟨bf, 0, none⟩) Hfb.out).trans HS7.out.ff
  have Hown := hid hown
  have Hf := hid hfr9
  have Hb := hid hb
  have Hg := hid hg
  have Hfbf := hid fbf
  have ngf : bg ≠ bf := fun e => Hfg.out e.symm
  have nfg := Hfg.out
  clear hown hfr9 hb hg fg7 cg7 p0 p1 p2 p3 p4 p5 p6 p7 p8 p9 fbf
  go_wp2
  obtain ⟨g1, g3, g4⟩ := G.out
  have hgr := Hg.out
  have hsz : W7.heap.size ≤ w9.heap.size := hgr.size
  have hs2 : (w9.setCell ⟨bg, 0, none⟩ (.slice a' (k + 1) cap')).heap.size = w9.heap.size := by simp [go_sem]
  have hE9 : Eff O W (w9.setCell ⟨bg, 0, none⟩ (.slice a' (k + 1) cap')) := by
    have e9 : Eff O W7 w9 := ⟨hgr.os, hgr.tape, hgr.output, hgr.size, fun b hb hn => hgr.block b hb (fun e => hn (g3 b e.symm))⟩
    exact ((HE7.out.wide (fun b hb => by rw [hb]; exact HOf.out)).trans e9 (fun b hb => .inl hb)).set g1 _ _
  refine bodyPost_ret (v := .bool true) (by simp [results, Tryz.results63, go_sem]) rfl ⟨fun b => O b ∨ (W.heap.size ≤ b ∧ b < w9.heap.size), fun b h => .inl h, fun b h => h.imp id (·.1), hE9, rfl, ?_, by simp [go_sem, ebf], by simp [go_sem, Hfbf.out]⟩
  refine ⟨.slice a' (k + 1) cap', by simp [go_sem, e1], ?_, by simp [go_sem, hfz], k5, by omega, .inl g1, fun b hb => ?_, fun b hb => ?_⟩
  · rw [ts.out, ints_append, ints_one, ← Hs0.out]; exact ownsRow_setCell_below Hown.out (by simpa using k5) _
  · rcases Hf.out b hb with h | h
    · exact .inl (g3 b h)
    · exact .inr ⟨by omega, (owns_lt Hown.out hb).2⟩
  · rcases hb with h | h
    · have := g4 b h; omega
    · omega
end Go.Proofs.YtcbanlgnanihhaaGreatDoor

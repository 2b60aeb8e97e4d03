/-
  seek.Prev and seek.Last.
  What Next and Prev of a set tell, in plain words.
  ferialaw17.May: the document's answer for sets.
-/
import Derived.Test.YtcbanlgnanihhaaGreatDoorQ53377a
import Derived.Test.YtcbanlgnanihhaaGreatDoorQ794b97
import Derived.Test.YtcbanlgnanihhaaGreatDoorQfa931d
namespace Go.Proofs.YtcbanlgnanihhaaGreatDoor
open Go.RowKit Go.Maps
set_option linter.unusedVariables false
attribute [local go_sem] Oper.semAt_some

structure PvC (b : Nat) (T x y : Int) (O : Blk) (W : World) : Prop where
  two : TwoC (b + 1) x y O W
  c3 : W.cell? ⟨b, 0, none⟩ = some (.int .i64 T)
  o3 : O b
theorem PvC.keep {b : Nat} {T x y : Int} {O : Blk} {W W' : World} (h : PvC b T x y O W) (hs : W.heap.size ≤ W'.heap.size) (hb : ∀ c, O c → W'.heap[c]? = W.heap[c]?) : PvC b T x y O W' :=
  ⟨h.two.keep hs hb, (World.cell?_of_block (w := W) (a := ⟨b, 0, none⟩) (hb _ h.o3)).trans h.c3, h.o3⟩
def PvI (cs : List Cl) (b : Nat) (T : Int) : OwnF := fun k O _ W => PvC b T 0 0 O W ∧ NoLate cs T k
def PvX (cs : List Cl) (b : Nat) (T : Int) (c : Code) : OwnF := fun k O _ W => c = .ret ∧ ∃ x, LastI cs T x ∧ TwoC (b + 1) x 0 O W
theorem pvI_stab (cs : List Cl) (b : Nat) (T : Int) (M : Blk) : StabF M (PvI cs b T) := fun k O F F' W W' h hs hF hO => ⟨h.1.keep hs (fun c hc => hO c (.inl hc)), h.2⟩
theorem pvX_stab (cs : List Cl) (b : Nat) (T : Int) (M : Blk) (c : Code) : StabF M (PvX cs b T c) := fun k O F F' W W' ⟨h1, x, h2, h3⟩ hs hF hO => ⟨h1, x, h2, h3.keep hs (fun c hc => hO c (.inl hc))⟩
theorem pvI_lt (cs : List Cl) (b : Nat) (T : Int) : LtF (PvI cs b T) := fun k O F W h => h.1.two.lt
theorem pvX_lt (cs : List Cl) (b : Nat) (T : Int) (c : Code) : LtF (PvX cs b T c) := fun k O F W ⟨_, _, _, h⟩ => h.lt
def PvT (h0 h1 h2 h3 h4 h5 h6 h7 h8 h9 : Value) (ds : List Deferred) (a : Act) : Prop := ∃ u : Nat → Value, a = { tmps := #[h0, h1, h2, h3, h4, h5, h6, h7, h8, h9, u 0, u 1, u 2, u 3, u 4, u 5, u 6, u 7, u 8, u 9, u 10, u 11, u 12, u 13, u 14, u 15, u 16, u 17, u 18, u 19, u 20, u 21, u 22, u 23, u 24, u 25, u 26, u 27, u 28, u 29, u 30, u 31, u 32, u 33, u 34, u 35, u 36, u 37, u 38], defers := ds }
theorem PvT.of {h0 h1 h2 h3 h4 h5 h6 h7 h8 h9 u10 u11 u12 u13 u14 u15 u16 u17 u18 u19 u20 u21 u22 u23 u24 u25 u26 u27 u28 u29 u30 u31 u32 u33 u34 u35 u36 u37 u38 u39 u40 u41 u42 u43 u44 u45 u46 u47 u48 : Value} {ds : List Deferred} : PvT h0 h1 h2 h3 h4 h5 h6 h7 h8 h9 ds { tmps := #[h0, h1, h2, h3, h4, h5, h6, h7, h8, h9, u10, u11, u12, u13, u14, u15, u16, u17, u18, u19, u20, u21, u22, u23, u24, u25, u26, u27, u28, u29, u30, u31, u32, u33, u34, u35, u36, u37, u38, u39, u40, u41, u42, u43, u44, u45, u46, u47, u48], defers := ds } :=
  ⟨fun i => (#[u10, u11, u12, u13, u14, u15, u16, u17, u18, u19, u20, u21, u22, u23, u24, u25, u26, u27, u28, u29, u30, u31, u32, u33, u34, u35, u36, u37, u38, u39, u40, u41, u42, u43, u44, u45, u46, u47, u48] : Array Value).getD i undef, rfl⟩
theorem rollback_enters (args : Array Value) (w : World) : (callFunc 112 args).run Tryz.prog w = .ok (.enter 112 args) w := by simp [go_sem]
set_option maxRecDepth 100000 in
set_option maxHeartbeats 3200000 in
theorem SkPrev_any (a : Option Addr) (cap : Nat) (l : List Cl) (t : Int) (w : World) (hl : l.length ≤ 9223372036854775807) (hlc : l.length ≤ cap) (hs : Sl w a (cls l)) (hno : a = none → cap = 0) (hok : ∀ c ∈ l, c.Ok) (hT : Tab w) :
    Calls Tryz.prog 32 #[.slice a l.length cap, .int .i64 t] w fun e w' => e = .returned (.tuple #[.int .i64 (prevP l t).1, .int .i64 (prevP l t).2]) ∧ Below w.heap.size w w' := by
  obtain ⟨W1, hW1⟩ : ∃ W1, ((w.alloc (.cells #[.int .i64 t] 2)).alloc (.cells #[.int .i64 0] 2)).alloc (.cells #[.int .i64 0] 34) = W1 := ⟨_, rfl⟩
  have hB1 : Below w.heap.size w W1 := by rw [← hW1]; exact below_new (below_new (below_new (Below.refl _ _) (Nat.le_refl _)) (by simp)) (by simp; omega)
  have s1 : W1.heap.size = w.heap.size + 3 := by rw [← hW1]; simp
  have hC1 : PvC w.heap.size t 0 0 (fun b => b = w.heap.size ∨ b = w.heap.size + 1 ∨ b = w.heap.size + 1 + 1) W1 := by
    refine ⟨⟨?_, ?_, ?_, ?_, .inr (.inl rfl), .inr (.inr rfl), fun c hc => by omega⟩, ?_, .inl rfl⟩ <;> (rw [← hW1]; simp [go_sem])
  have z3 : W1.frozen? ⟨w.heap.size, 0, none⟩ = false := by rw [← hW1]; simp [go_sem]
  have cN := hid (RNew_any a cap l W1 hl hlc (hs.below hB1) hno hok (hT.later hB1))
  have cH := hid (fun W => SkHeld_any t W)
  have g1 := held_le t
  obtain ⟨T, hh0⟩ : ∃ x, heldI t = x := ⟨_, rfl⟩
  have hP : Hid (prevP l t = if faultL l ≠ 0 then (0, faultL l) else headP (instA l 0 (T - 1)).reverse) := by show _ = _; rw [prevP, hh0]
  rw [hh0] at cH g1
  obtain ⟨pr, hpr⟩ : ∃ x, prevP l t = x := ⟨_, rfl⟩
  rw [hpr] at hP ⊢
  have HB1 := hid hB1
  have HW1 := hid hW1
  have S1 := hid s1
  have C1 := hid hC1
  have Ht0 : Hid (0 < w.heap.size) := hT.1
  clear hW1 hB1 hs hok hT s1 hno hlc hh0 hpr hC1
  refine (wf_calls (r := none) (n := 1)).mp ?_
  refine callsIn_of_wp_marks Tryz.func32 rfl trivial ?_ rfl
  simp only [Tryz.ntmps32, List.size_toArray, List.length_cons, List.length_nil, Nat.reduceAdd, Nat.reduceSub, Array.replicate_succ, Array.replicate_zero, List.push_toArray, List.append_toArray, List.nil_append, List.cons_append]
  gi_wp2_with fail
  rw [HW1.out]
  refine (wf_calls.mpr cN.out).mono ?_
  rintro e w2 ⟨hN, hB2⟩
  have hB02 := hid (HB1.out.trans (hB2.mono HB1.out.size))
  have S2 : Hid (w.heap.size + 3 ≤ w2.heap.size) := by have := hB2.size; have := S1.out; show _ ≤ _; omega
  have C2 : Hid (PvC w.heap.size t 0 0 (fun b => b = w.heap.size ∨ b = w.heap.size + 1 ∨ b = w.heap.size + 1 + 1) w2) := C1.out.keep hB2.size (fun c hc => hB2.block c (C1.out.two.lt c hc))
  have z32 := (hB2.frozen (p := ⟨w.heap.size, 0, none⟩) (by have := S1.out; simp only []; omega)).trans z3
  rcases hN with ⟨hf, rfl⟩ | ⟨hf, br, bk, bps, rfl, hR, hM⟩
  · have hpr : Hid (pr = (0, faultL l)) := by show _ = _; rw [hP.out, if_pos hf]
    have hBf : Hid (Below w.heap.size w ((w2.setCell ⟨w.heap.size + 1, 0, none⟩ (.int .i64 0)).setCell ⟨w.heap.size + 1 + 1, 0, none⟩ (.int .i64 (faultL l)))) := below_set (below_set hB02.out (by omega)) (by omega)
    obtain ⟨X, hX⟩ : ∃ X, faultL l = X := ⟨_, rfl⟩
    rw [hX] at hf hpr hBf ⊢
    have HX := hid (C2.out.two.set (x' := 0) (y' := X))
    obtain ⟨⟨c4, c5, f4, f5, -, -, -⟩, -, -⟩ := C2.out
    have hX0 : (X == 0) = false := by simpa using hf
    have hX1 : (X != 0) = true := by simpa using hf
    clear hB2 hX hP z3 z32
    gi_wp2
    obtain ⟨d4, d5, -, -, -, -, -⟩ := HX.out
    refine ⟨_, ?_, by rw [hpr.out], hBf.out⟩
    simp [results, Tryz.results32, go_sem, d4, d5]
  · have Hf := hid hf
    have HR := hid hR
    have HM := hid hM
    have c32 := C2.out.c3
    clear hB2 z3 hR hM hf
    gi_wp2_with fail
    refine (wf_calls.mpr (cH.out w2)).mono ?_
    rintro e wx ⟨rfl, hwx⟩
    rw [hwx]
    clear cH hwx
    obtain ⟨w3, hw3⟩ : ∃ w3, w2.setCell ⟨w.heap.size, 0, none⟩ (.int .i64 T) = w3 := ⟨_, rfl⟩
    have sz3 : w3.heap.size = w2.heap.size := by rw [← hw3]; simp
    have C3 : PvC w.heap.size T 0 0 (fun b => b = w.heap.size ∨ b = w.heap.size + 1 ∨ b = w.heap.size + 1 + 1) w3 := by
      obtain ⟨⟨c4, c5, f4, f5, h1, h2, h3⟩, c3, o3⟩ := C2.out
      refine ⟨⟨?_, ?_, ?_, ?_, h1, h2, fun c hc => by rw [sz3]; exact h3 c hc⟩, ?_, o3⟩ <;> (rw [← hw3]; simp [go_sem, c4, c5, f4, f5, c3])
    have B3 : Below w.heap.size w w3 := by rw [← hw3]; exact below_set hB02.out (Nat.le_refl _)
    have hHP := hid hP.out
    by_cases h1 : T < 1
    · have e1 : decide (T < 1) = true := decide_eq_true h1
      have hpr : Hid (pr = (0, 15)) := by
        show _ = _
        rw [hHP.out, if_neg (by rw [Hf.out]; simp), instA_nil (by omega)]; rfl
      have hBf : Hid (Below w.heap.size w ((w3.setCell ⟨w.heap.size + 1, 0, none⟩ (.int .i64 0)).setCell ⟨w.heap.size + 1 + 1, 0, none⟩ (.int .i64 15))) := below_set (below_set B3 (by omega)) (by omega)
      have HX := hid (C3.two.set (x' := 0) (y' := 15))
      have k3 := C3.c3
      obtain ⟨⟨c4, c5, f4, f5, -, -, -⟩, -, -⟩ := C2.out
      have Hw3 := hid hw3
      rw [← hw3] at k3
      clear hP hw3 sz3 B3 h1 C3
      gi_wp2
      rw [Hw3.out]
      obtain ⟨d4, d5, -, -, -, -, -⟩ := HX.out
      refine ⟨_, ?_, by rw [hpr.out], hBf.out⟩
      simp [results, Tryz.results32, go_sem, d4, d5]
    · have e1 : decide (T < 1) = false := decide_eq_false h1
      have t1 : 1 ≤ T := by omega
      have k3 := C3.c3
      have HC3 := hid C3
      have HB3 := hid B3
      have Hw3 := hid hw3
      have SZ3 := hid sz3
      clear hP hw3 sz3 B3 h1 C3 k3
      gi_wp2_with fail
      rw [Hw3.out]
      have hFb : ∀ b, FNew W1 w2 b → b ≠ w.heap.size ∧ b ≠ w.heap.size + 1 ∧ b ≠ w.heap.size + 1 + 1 := fun b hb => by
        have := S1.out; have := Ht0.out
        rcases hb with hb | hb <;> omega
      have HR3 : Hid (RollS w3 l br bk bps (FNew W1 w2) (fun _ => false) 0) := HR.out.keep (by rw [SZ3.out]; exact Nat.le_refl _) (fun b hb => by rw [← Hw3.out]; exact Below.heap_setCell _ _ _ _ (hFb b hb).1)
      have HFb := hid hFb
      have cB := hid (RBackC_any 0 ((T - 1) / 86400) HR3.out (InvS 0) (Nat.le_refl 0))
      have hbr := bnd_rng l (f := 0) (t := (T - 1) / 86400) (by omega) (by omega)
      have hclip := back_clip l T
      obtain ⟨X1, hX1⟩ : ∃ X, bndF l 0 = X := ⟨_, rfl⟩
      obtain ⟨X2, hX2⟩ : ∃ X, bndU l ((T - 1) / 86400) = X := ⟨_, rfl⟩
      rw [hX1, hX2] at cB hbr hclip
      have tl := RBackF_any (cs := l) (br := br) (bk := bk) (bps := bps) InvS (w3.heap.size + 2) (w3.heap.size + 1) w3.heap.size X1 X2 hbr.1 hbr.2.1 hbr.2.2.1 hbr.2.2.2
        (fun j n ws m ws' m' hn hi hs => invS_step hi hs) (fun j ws m hi hj => by rw [List.length_reverse, daysL_len] at hj; rw [InvS] at hi; omega)
      rw [hclip] at tl
      obtain ⟨L, hL⟩ : ∃ L, (daysL X1 X2).reverse.length = L := ⟨_, rfl⟩
      rw [hL] at tl
      have TL := hid tl
      have hP2 : Hid (pr = headP (instA l 0 (T - 1)).reverse) := by show _ = _; rw [hHP.out, if_neg (by rw [Hf.out]; simp)]
      clear hFb hbr hclip tl hL hX1 hX2 z32 c32
      refine (wf_calls.mpr cB.out).mono ?_
      rintro e w4 ⟨rfl, hB4, hl4, hHA⟩
      have HB4 := hid (HB3.out.trans (hB4.mono HB3.out.size))
      have C4 := hid (HC3.out.keep hB4.size (fun c hc => hB4.block c (HC3.out.two.lt c hc)))
      have HHA := hid hHA
      have S3 : Hid (w.heap.size + 3 ≤ w3.heap.size) := by show _ ≤ _; rw [SZ3.out]; exact S2.out
      have HFO : Hid (∀ b, F3 (FNew W1 w2) w3.heap.size b → ¬ (b = w.heap.size ∨ b = w.heap.size + 1 ∨ b = w.heap.size + 1 + 1)) := fun b hb h => by
        have := S3.out
        rcases hb with hb | hb
        · have := HFb.out b hb; omega
        · omega
      clear hB4 hHA cB e1
      gi_wp2_with fail
      refine range_outerG (F := F3 (FNew W1 w2) w3.heap.size) (M := RM br bk bps) (gf := 112) (lb := #[.pointer (some ⟨w3.heap.size + 2, 0, none⟩), .pointer (some ⟨w3.heap.size + 1, 0, none⟩), .pointer (some ⟨w3.heap.size, 0, none⟩)]) rfl rollback_enters (fun b => b = w.heap.size ∨ b = w.heap.size + 1 ∨ b = w.heap.size + 1 + 1)
        (fun k vs F W h => by obtain ⟨_, _, _, _, _, rfl, _⟩ := h; rfl) TL.out HA.host HA.host HA.hostE HHA.out HFO.out
        (PvI l w.heap.size T) (PvX l w.heap.size T) (pvI_stab _ _ _ _) (pvX_stab _ _ _ _) (pvI_lt _ _ _) (pvX_lt _ _ _) ⟨C4.out, late_zero _ _⟩
        (fun k O F a' W => PvI l w.heap.size T k O F W ∧ ∃ bx n d, (backD l T)[k]? = some n ∧ SkD l (RM br bk bps) n d bx O F W ∧ PvT (.slice a l.length cap) (.int .i64 t) undef (.pointer (some ⟨w.heap.size, 0, none⟩)) (.pointer (some ⟨w.heap.size + 1, 0, none⟩)) (.pointer (some ⟨w.heap.size + 1 + 1, 0, none⟩)) (.pointer (some ⟨br, 0, none⟩)) (.int .i64 0) (.pointer (some ⟨bx, 0, none⟩)) (.pointer (some ⟨d, 0, none⟩)) [] a')
        ?putl ?assign ?body ?done ?stop
      case putl =>
        rintro l' o k O F a' W hr hnO hnF ⟨h1, bx, n, d, h3, h4, h5⟩
        have ko : ∀ b, O b ∨ (F b ∧ ¬ RM br bk bps b) → (W.putObj l' o).heap[b]? = W.heap[b]? := fun b hb => World.putObj_heap_other (fun e => hb.elim (fun h => hnO (e ▸ h)) (fun h => hnF (e ▸ h.1)))
        exact ⟨pvI_stab _ _ _ (RM br bk bps) k O F F W _ h1 (by rw [World.putObj_size]; exact Nat.le_refl _) (fun _ h => h) ko, bx, n, d, h3, h4.put hr hnF, h5⟩
      case assign =>
        rintro l' k O6 F6 W6 vs K hk hJ6 hFl ⟨n, d, hn, h0, h1, rfl, hd, ht, hlt⟩ hG6 hK
        rw [← shq_shF]
        obtain ⟨s, hs⟩ : ∃ s, shF n = s := ⟨_, rfl⟩
        rw [hs, shq]
        have Hs := hid hs
        have HP := hid (And.intro hJ6 (And.intro hFl (And.intro hn (And.intro hd (And.intro ht (And.intro hlt hG6))))))
        clear hs hJ6 hFl hn hd ht hlt hG6 h0 h1
        gi_wp2
        obtain ⟨hJ6, hFl, hn, hd, ht, hlt, hG6⟩ := HP.out
        have hbel := below_new (o := .cells (shList s).toArray 63) (Below.refl W6.heap.size W6) (Nat.le_refl _)
        have hlO := pvI_lt _ _ _ _ _ _ _ hJ6
        refine hK _ O6 _ (Grow.of_below hbel) ⟨pvI_stab _ _ _ (RM br bk bps) _ O6 F6 F6 W6 _ hJ6 hbel.size (fun _ h => h) (fun b hb => hbel.block b (hb.elim (hlO b) (fun h => hlt b h.1))), W6.heap.size, n, d, hn,
          ⟨fun b hb => (hFl b hb).1, ⟨hd.1, hd.2.1, hd.2.2.block hbel.size (hbel.block d (hlt d hd.1))⟩, ⟨ht.1.later hbel, ht.2.1⟩, fun b hb => Nat.lt_of_lt_of_le (hlt b hb) hbel.size, by simp, ⟨fun h => by have := hlO _ h; omega, fun h => by have := hlt _ h; omega⟩, by rw [Hs.out]; exact shC_new W6 63 _ _ _ _ _ _ _ _ _ _⟩, PvT.of⟩
      case done =>
        rintro O9 F9 w9 hG9 hHN hFs hFn hFO9 ⟨hI, hLt⟩ hD hnD hnF
        have hpr : Hid (pr = (0, 15)) := by
          show _ = _
          rw [hP2.out, head_none (fun y hy => late_none hLt rfl hy)]
        have hI2 := hI.two
        have HX := hid (hI2.set (x' := 0) (y' := 15))
        have HB9 : Hid (Below w.heap.size w w9) := HB4.out.trans (hG9.eff.below (fun b hb => by
          rcases hb with (h | h | h) | h
          · omega
          · omega
          · omega
          · have := HM.out b h; have := S1.out; omega) HB4.out.size)
        have HDx : Hid (((w9.setCell ⟨w.heap.size + 1, 0, none⟩ (.int .i64 0)).setCell ⟨w.heap.size + 1 + 1, 0, none⟩ (.int .i64 15)).heap[w4.heap.size]? = some (.deferred (some []))) := by
          show _ = _
          rw [Below.heap_setCell _ _ _ _ (fun e => hnD (by rw [e]; exact hI2.o5)), Below.heap_setCell _ _ _ _ (fun e => hnD (by rw [e]; exact hI2.o4))]
          exact hD
        have HND := hid hnD
        obtain ⟨c4, c5, f4, f5, -, -, -⟩ := hI2
        clear hG9 hHN hFs hFn hFO9 hnD hnF hD hLt hI
        gi_wp2
        refine ⟨by simp, .inl ⟨_, _, rfl, run_takeDeferred HDx.out, ?_⟩⟩
        have hBf := below_putObj (below_set (below_set HB9.out (by omega)) (by omega) : Below w.heap.size w ((w9.setCell ⟨w.heap.size + 1, 0, none⟩ (.int .i64 0)).setCell ⟨w.heap.size + 1 + 1, 0, none⟩ (.int .i64 15))) HB4.out.size (.deferred none)
        have hX2 := HX.out.keep (W' := ((w9.setCell ⟨w.heap.size + 1, 0, none⟩ (.int .i64 0)).setCell ⟨w.heap.size + 1 + 1, 0, none⟩ (.int .i64 15)).putObj w4.heap.size (.deferred none)) (by rw [World.putObj_size]; exact Nat.le_refl _) (fun b hb => World.putObj_heap_other (fun e => HND.out (e ▸ hb)))
        refine ⟨.tuple #[.int .i64 0, .int .i64 15], ?_, by rw [hpr.out], hBf⟩
        obtain ⟨WF, hWF⟩ : ∃ W, ((w9.setCell ⟨w.heap.size + 1, 0, none⟩ (.int .i64 0)).setCell ⟨w.heap.size + 1 + 1, 0, none⟩ (.int .i64 15)).putObj w4.heap.size (.deferred none) = W := ⟨_, rfl⟩
        rw [hWF] at hX2
        obtain ⟨c4, c5, -, -, -, -, -⟩ := hX2
        rw [hWF]
        simp [results, Tryz.results32, go_sem, c4, c5]
      case stop =>
        rintro c k O9 F9 w9 hk1 hk2 hG9 hHN hFs hFn hFO9 ⟨rfl, x, hx, hX⟩ hD hnD hnF
        have hX' : TwoC (w.heap.size + 1) x 0 O9 (w9.putObj w4.heap.size (.deferred none)) := hX.keep (by rw [World.putObj_size]; exact Nat.le_refl _) (fun b hb => World.putObj_heap_other (fun e => hnD (e ▸ hb)))
        have hBf : Hid (Below w.heap.size w (w9.putObj w4.heap.size (.deferred none))) := below_putObj (HB4.out.trans (hG9.eff.below (fun b hb => by
          rcases hb with (h | h | h) | h
          · omega
          · omega
          · omega
          · have := HM.out b h; have := S1.out; omega) HB4.out.size)) HB4.out.size _
        have HD := hid hD
        have HX := hid hX'
        have hpr : Hid (pr = (x, 0)) := by
          show _ = _
          rw [hP2.out, head_last hx]
        clear hX hG9 hD hX' hHN hFs hFn hFO9 hnD hnF hx
        gi_wp2
        refine ⟨by simp, .inl ⟨_, _, rfl, run_takeDeferred HD.out, ?_⟩⟩
        obtain ⟨c4, c5, -, -, -, -, -⟩ := HX.out
        refine ⟨.tuple #[.int .i64 x, .int .i64 0], ?_, by rw [hpr.out], hBf.out⟩
        simp [results, Tryz.results32, go_sem, c4, c5]
      case body =>
        rintro l3 k O6 F6 a' W6 hk hG6 hl3 hrec6 hnl3 hnF3 ⟨⟨hI6, hN6⟩, bx, n, d, en, hD, V, rfl⟩
        have hmem := backD_mem.1 (List.mem_of_getElem? en)
        obtain ⟨lo, hlo⟩ : ∃ lo : Nat, (lo : Int) = min (T - 1 - 86400 * n) 86399 := ⟨(min (T - 1 - 86400 * n) 86399).toNat, by omega⟩
        have cP := hid (DcPrev_any d (dayQ l n) lo W6 (by omega) hD.di.2.2)
        have cP1 : Hid (∀ v : Int, v = lo → Calls Tryz.prog 64 #[.pointer (some ⟨d, 0, none⟩), .int .i64 v] W6 fun r w' => (∃ n2 ok, r = .returned (.tuple #[.int .i64 n2, .bool ok]) ∧ LastOf (fun k => dayQ l n k && decide (k ≤ lo)) n2 ok) ∧ w' = W6) := by
          rintro v rfl; exact cP.out
        obtain ⟨s, hs⟩ : ∃ s, shF n = s := ⟨_, rfl⟩
        have hs0 : s 0 = n := by rw [← hs]; rfl
        have hsh := hD.sh
        rw [hs] at hsh
        obtain ⟨s0, -⟩ := hsh
        rw [hs0] at s0
        have n0 := hmem.1
        have n1 : n < 146097 := by omega
        have k3 := hI6.c3
        have HI6 := hid hI6
        have HN6 := hid hN6
        have En := hid en
        have Hlo := hid hlo
        obtain ⟨⟨c4, c5, f4, f5, -, -, -⟩, -, -⟩ := hI6
        clear hG6 hs hs0 hD hmem hk hN6 en hlo cP
        gi_wp2_with fail
        all_goals
          refine (wf_calls.mpr (cP1.out _ (by have := Hlo.out; omega))).mono ?_
          rintro e w7 ⟨⟨a7, ok7, rfl, hF7⟩, hw7⟩
          rw [hw7]
          clear hw7 cP1
          cases ok7
          · have HN7 := hid (late_more HN6.out En.out Hlo.out hF7)
            clear hF7 s0
            gi_wp2
            exact ⟨O6, ⟨fun _ h => h, fun _ h => .inl h, Eff.refl _ _⟩, HI6.out, HN7.out⟩
          · have HL7 := hid (late_last HN6.out En.out Hlo.out hF7)
            have a70 : 0 ≤ a7 ∧ a7 < 86400 := by
              rcases hF7 with ⟨-, j, rfl, hj, -⟩ | ⟨h, -⟩
              · omega
              · cases h
            obtain ⟨a0, a1⟩ := a70
            clear hF7 s0
            gi_wp2
            have hHL := HL7.out
            first
              | exact ⟨O6, ⟨fun _ h => h, fun _ h => .inl h, ((Eff.refl O6 W6).set HI6.out.two.o4 _ _).set HI6.out.two.o5 _ _⟩, rfl, _, hHL, HI6.out.two.set⟩
              | (rw [Int.mul_comm] at hHL; exact ⟨O6, ⟨fun _ h => h, fun _ h => .inl h, ((Eff.refl O6 W6).set HI6.out.two.o4 _ _).set HI6.out.two.o5 _ _⟩, rfl, _, hHL, HI6.out.two.set⟩)
set_option maxRecDepth 100000 in
set_option maxHeartbeats 800000 in
theorem SkLast_any (a : Option Addr) (cap : Nat) (l : List Cl) (w : World) (hl : l.length ≤ 9223372036854775807) (hlc : l.length ≤ cap) (hs : Sl w a (cls l)) (hno : a = none → cap = 0) (hok : ∀ c ∈ l, c.Ok) (hT : Tab w) :
    Calls Tryz.prog 35 #[.slice a l.length cap] w fun e w' => e = .returned (.tuple #[.int .i64 (prevP l 12622780800).1, .int .i64 (prevP l 12622780800).2]) ∧ Below w.heap.size w w' := by
  have cN := hid (SkPrev_any a cap l 12622780800 w hl hlc hs hno hok hT)
  obtain ⟨pr, hpr⟩ : ∃ x, prevP l 12622780800 = x := ⟨_, rfl⟩
  rw [hpr] at cN ⊢
  clear hs hno hok hT hpr
  go_enter Tryz.func35, Tryz.ntmps35
  go_wp2_with fail
  refine cN.out.mono ?_
  rintro e w2 ⟨rfl, hB⟩
  have HB := hid hB
  clear hB
  go_wp2
  go_ret2
  exact ⟨rfl, HB.out⟩
end Go.Proofs.YtcbanlgnanihhaaGreatDoor
namespace Go.Proofs.YtcbanlgnanihhaaGreatDoor
open Go.RowKit Go.Maps
set_option linter.unusedVariables false

theorem next_fault {l : List Cl} {t : Int} (h : faultL l ≠ 0) : nextP l t = (0, faultL l) := by rw [nextP, if_pos h]
theorem held_lt {t y : Int} (h0 : 0 ≤ y) (h1 : y < 12622780800) : heldI t + 1 ≤ y ↔ t < y := by rw [heldI]; omega
theorem held_gt {t y : Int} (h0 : 0 ≤ y) (h1 : y < 12622780800) : y ≤ heldI t - 1 ↔ y < t := by rw [heldI]; omega
def NextI (cs : List Cl) (t x : Int) : Prop := instB cs x = true ∧ t < x ∧ ∀ y, t < y → y < x → instB cs y = false
theorem next_cases {l : List Cl} {t : Int} (h : faultL l = 0) : (∃ x, nextP l t = (x, 0) ∧ NextI l t x) ∨ (nextP l t = (0, 15) ∧ ∀ y, t < y → instB l y = false) := by
  rw [nextP, if_neg (by simp [h])]
  have hp := instA_up l (heldI t + 1) 12622780799
  have hm : ∀ y, y ∈ instA l (heldI t + 1) 12622780799 ↔ t < y ∧ instB l y = true := fun y => by
    rw [instA_mem]
    constructor
    · rintro ⟨h1, h2, h3⟩
      have := inst_win h3
      exact ⟨(held_lt this.1 this.2).1 h1, h3⟩
    · rintro ⟨h1, h3⟩
      have := inst_win h3
      exact ⟨(held_lt this.1 this.2).2 h1, by omega, h3⟩
  generalize instA l (heldI t + 1) 12622780799 = L at *
  cases L with
  | nil =>
    refine .inr ⟨rfl, fun y hy => ?_⟩
    cases e : instB l y
    · rfl
    · have := (hm y).2 ⟨hy, e⟩; cases this
  | cons x L =>
    have hx := (hm x).1 (by simp)
    refine .inl ⟨x, rfl, hx.2, hx.1, fun y h1 h2 => ?_⟩
    cases e : instB l y
    · rfl
    · rcases List.mem_cons.1 ((hm y).2 ⟨h1, e⟩) with h3 | h3
      · omega
      · have := (List.pairwise_cons.1 hp).1 y h3; omega
theorem prev_cases {l : List Cl} {t : Int} (h : faultL l = 0) : (∃ x, prevP l t = (x, 0) ∧ LastI l t x) ∨ (prevP l t = (0, 15) ∧ ∀ y, y < t → instB l y = false) := by
  rw [prevP, if_neg (by simp [h])]
  have hp : (instA l 0 (heldI t - 1)).reverse.Pairwise (· > ·) := List.pairwise_reverse.2 (instA_up l 0 (heldI t - 1))
  have hm : ∀ y, y ∈ (instA l 0 (heldI t - 1)).reverse ↔ y < t ∧ instB l y = true := fun y => by
    rw [List.mem_reverse, instA_mem]
    constructor
    · rintro ⟨h1, h2, h3⟩
      have := inst_win h3
      exact ⟨(held_gt this.1 this.2).1 h2, h3⟩
    · rintro ⟨h1, h3⟩
      have := inst_win h3
      exact ⟨this.1, (held_gt this.1 this.2).2 h1, h3⟩
  generalize (instA l 0 (heldI t - 1)).reverse = L at *
  cases L with
  | nil =>
    refine .inr ⟨rfl, fun y hy => ?_⟩
    cases e : instB l y
    · rfl
    · have := (hm y).2 ⟨hy, e⟩; cases this
  | cons x L =>
    have hx := (hm x).1 (by simp)
    refine .inl ⟨x, rfl, hx.2, hx.1, fun y h1 h2 => ?_⟩
    cases e : instB l y
    · rfl
    · rcases List.mem_cons.1 ((hm y).2 ⟨h2, e⟩) with h3 | h3
      · omega
      · have := (List.pairwise_cons.1 hp).1 y h3; omega
theorem nextP_is {l : List Cl} {t x : Int} (h : faultL l = 0) (hx : NextI l t x) : nextP l t = (x, 0) := by
  obtain ⟨h1, h2, h3⟩ := hx
  rcases next_cases (t := t) h with ⟨y, e, g1, g2, g3⟩ | ⟨e, g⟩
  · rw [e]
    by_cases h4 : x < y
    · have := g3 x h2 h4; rw [h1] at this; cases this
    · by_cases h5 : y < x
      · have := h3 y g2 h5; rw [g1] at this; cases this
      · rw [show x = y by omega]
  · have := g x h2; rw [h1] at this; cases this
theorem prevP_is {l : List Cl} {t x : Int} (h : faultL l = 0) (hx : LastI l t x) : prevP l t = (x, 0) := by
  obtain ⟨h1, h2, h3⟩ := hx
  rcases prev_cases (t := t) h with ⟨y, e, g1, g2, g3⟩ | ⟨e, g⟩
  · rw [e]
    by_cases h4 : y < x
    · have := g3 x h4 h2; rw [h1] at this; cases this
    · by_cases h5 : x < y
      · have := h3 y h5 g2; rw [g1] at this; cases this
      · rw [show x = y by omega]
  · have := g x h2; rw [h1] at this; cases this
theorem nextP_none {l : List Cl} {t : Int} (h : faultL l = 0) (hn : ∀ y, t < y → instB l y = false) : nextP l t = (0, 15) := by
  rcases next_cases (t := t) h with ⟨y, e, g1, g2, g3⟩ | ⟨e, g⟩
  · have := hn y g2; rw [g1] at this; cases this
  · exact e
theorem prevP_none {l : List Cl} {t : Int} (h : faultL l = 0) (hn : ∀ y, y < t → instB l y = false) : prevP l t = (0, 15) := by
  rcases prev_cases (t := t) h with ⟨y, e, g1, g2, g3⟩ | ⟨e, g⟩
  · have := hn y g2; rw [g1] at this; cases this
  · exact e
theorem next_prev {l : List Cl} {t x : Int} (h : faultL l = 0) (ht : instB l t = true) (hx : NextI l t x) : prevP l x = (t, 0) :=
  prevP_is h ⟨ht, hx.2.1, fun y h1 h2 => hx.2.2 y h1 h2⟩
theorem prev_next {l : List Cl} {t x : Int} (h : faultL l = 0) (ht : instB l t = true) (hx : LastI l t x) : nextP l x = (t, 0) :=
  nextP_is h ⟨ht, hx.2.1, fun y h1 h2 => hx.2.2 y h1 h2⟩
theorem prev_far {l : List Cl} {t : Int} (h : 12622780800 ≤ t) : prevP l t = prevP l 12622780800 := by
  have e : heldI t = heldI 12622780800 := by rw [heldI, heldI]; omega
  rw [prevP, prevP, e]
end Go.Proofs.YtcbanlgnanihhaaGreatDoor
namespace Go.Proofs.YtcbanlgnanihhaaGreatDoor
open Go.RowKit
set_option linter.unusedVariables false

attribute [local go_sem ↓] loadAt_cl
set_option maxRecDepth 100000 in
set_option maxHeartbeats 3200000 in
theorem RMay17_any (a : Option Addr) (cap : Nat) (l : List Cl) (w : World) (hl : l.length ≤ 1000) (hs : Sl w a (cls l)) (hok : ∀ c ∈ l, c.Ok) :
    Calls Tryz.prog 10 #[.slice a l.length cap] w fun e w' => e = .returned (.bool (mayL l)) ∧ Below w.heap.size w w' := by
  have Hs := hid hs
  have Hok := hid hok
  clear hs hok
  go_enter Tryz.func10, Tryz.ntmps10
  go_wp2_with fail
  go_loopw [3] (fun i wr => ∃ k : Nat, i = .int .i64 k ∧ k ≤ l.length ∧ k ≤ 9 ∧ Hid ((l.take k).all mayC = true) ∧ Hid (Below w.heap.size w wr)) (fun i _ => l.length - (intOf i).toNat)
  case atStart => exact ⟨0, rfl, by omega, by omega, by show _ = _; rfl, Below.refl _ _⟩
  case round =>
    obtain ⟨k, rfl, hk, hk9, hall, HB⟩ := hrel
    by_cases hlt : k < l.length
    · by_cases h9 : k < 9
      · have hltI : (k : Int) < l.length := by omega
        have h9I : (k : Int) < 9 := by omega
        obtain ⟨b, off, rfl, hbk, hr⟩ := Hs.out.atCl hlt
        have hr' := range_below hr HB.out hbk
        have hcOk := hid (Hok.out _ (List.getElem_mem hlt))
        have ts := hid (take_snoc l k hlt)
        have hmem := hid (List.getElem_mem hlt)
        obtain ⟨c, hc⟩ : ∃ c, l[k] = c := ⟨_, rfl⟩
        rw [hc] at hr' hcOk ts hmem
        have le := ld_at hr'
        have cM := hid (fun W => RMayCl_any c W hcOk.out)
        cases hm : mayC c
        · rw [hm] at cM
          have hno : Hid (mayL l = false) := by
            show _ = _
            rw [mayL, show l.all mayC = false by rw [List.all_eq_false]; exact ⟨c, hmem.out, by rw [hm]; simp⟩, Bool.and_false]
          clear hr hr' hc hm
          go_wp2_with fail
          refine (cM.out _).mono ?_
          rintro e w1 ⟨rfl, hB1⟩
          have HB1 := hid (HB.out.trans (hB1.mono HB.out.size))
          clear hB1 le
          go_wp2
          go_ret
          rw [hno.out]
          exact ⟨rfl, HB1.out⟩
        · rw [hm] at cM
          have hyes : Hid ((l.take (k + 1)).all mayC = true) := by show _ = _; rw [ts.out, List.all_append, hall.out, List.all_cons, hm]; rfl
          clear hr hr' hc hm
          go_wp2_with fail
          refine (cM.out _).mono ?_
          rintro e w1 ⟨rfl, hB1⟩
          have HB1 := hid (HB.out.trans (hB1.mono HB.out.size))
          clear hB1 le
          go_wp2
          exact ⟨⟨k + 1, by go_num, by omega, by omega, hyes, HB1⟩, by simp [intOf]; omega⟩
      · have hltI : (k : Int) < l.length := by omega
        have h9I : ¬ (k : Int) < 9 := by omega
        have hno : Hid (mayL l = false) := by show _ = _; rw [mayL, decide_eq_false (by omega)]; rfl
        have h8J : decide ((l.length : Int) ≤ 8) = false := decide_eq_false (by omega)
        have h8I : ¬ (l.length : Int) ≤ 8 := by omega
        go_wp2
        go_ret
        rw [hno.out]
        exact ⟨rfl, HB.out⟩
    · have hltI : ¬ (k : Int) < l.length := by omega
      have hke : l.take k = l := List.take_of_length_le (by omega)
      rw [hke] at hall
      clear hke
      by_cases h8 : l.length ≤ 8
      · have hno : Hid (mayL l = true) := by show _ = _; rw [mayL, decide_eq_true h8, hall.out]; rfl
        have h8I : (l.length : Int) ≤ 8 := by omega
        clear hall
        go_wp2
        go_ret
        rw [hno.out]
        exact ⟨rfl, HB.out⟩
      · have hno : Hid (mayL l = false) := by show _ = _; rw [mayL, decide_eq_false h8]; rfl
        have h8I : ¬ (l.length : Int) ≤ 8 := by omega
        clear hall
        go_wp2
        go_ret
        rw [hno.out]
        exact ⟨rfl, HB.out⟩
end Go.Proofs.YtcbanlgnanihhaaGreatDoor

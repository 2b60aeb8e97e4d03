/-
  seek.Next and seek.First.
  tally.counter (and its function) and tally.part.
  A region that draws its order, in a round of a range over a function: walked as one outside of it.
-/
import Derived.Test.YtchceegpbfecaaaGreatDoorQ1f06bf
import Derived.Test.YtchceegpbfecaaaGreatDoorQb297f6
import Derived.LaidEql
import Derived.Laws.EntriesVeiled
import Derived.Test.YtchceegpbfecaaaGreatDoorQ4be105
import Derived.OrdersIn
import Derived.OrdersHeld
import Derived.Deep.RegionHeld3
import Derived.Sort.CutIn
namespace Go.Proofs.YtchceegpbfecaaaGreatDoor
set_option linter.unusedVariables false
section
open Go.RowKit Go.Maps
attribute [local go_sem] Oper.semAt_some

def headP : List Int → Int × Int
  | [] => (0, 15)
  | x :: _ => (x, 0)
def nextP (l : List Cl) (t : Int) : Int × Int := if faultL l ≠ 0 then (0, faultL l) else headP (instA l (heldI t + 1) 12622780799)
structure TwoC (b : Nat) (x y : Int) (O : Blk) (W : World) : Prop where
  c4 : W.cell? ⟨b, 0, none⟩ = some (.int .i64 x)
  c5 : W.cell? ⟨b + 1, 0, none⟩ = some (.int .i64 y)
  f4 : W.frozen? ⟨b, 0, none⟩ = false
  f5 : W.frozen? ⟨b + 1, 0, none⟩ = false
  o4 : O b
  o5 : O (b + 1)
  lt : ∀ c, O c → c < W.heap.size
theorem TwoC.keep {b : Nat} {x y : Int} {O : Blk} {W W' : World} (h : TwoC b x y O W) (hs : W.heap.size ≤ W'.heap.size) (hb : ∀ c, O c → W'.heap[c]? = W.heap[c]?) : TwoC b x y O W' :=
  ⟨(World.cell?_of_block (w := W) (a := ⟨b, 0, none⟩) (hb _ h.o4)).trans h.c4, (World.cell?_of_block (w := W) (a := ⟨b + 1, 0, none⟩) (hb _ h.o5)).trans h.c5,
   (World.frozen?_of_block (w := W) (a := ⟨b, 0, none⟩) (hb _ h.o4)).trans h.f4, (World.frozen?_of_block (w := W) (a := ⟨b + 1, 0, none⟩) (hb _ h.o5)).trans h.f5, h.o4, h.o5, fun c hc => zH (h.lt c hc) hs⟩
theorem TwoC.set {b : Nat} {x y x' y' : Int} {O : Blk} {W : World} (h : TwoC b x y O W) : TwoC b x' y' O ((W.setCell ⟨b, 0, none⟩ (.int .i64 x')).setCell ⟨b + 1, 0, none⟩ (.int .i64 y')) := by
  obtain ⟨h1, h2, h3, h4, h5, h6, h7⟩ := h
  refine ⟨?_, ?_, ?_, ?_, h5, h6, fun c hc => by simpa using h7 c hc⟩ <;> simp [go_sem, h1, h2, h3, h4]
def NxI19 (b : Nat) : OwnF := fun k O _ W => k = 0 ∧ TwoC b 0 0 O W
def NxX19 (b : Nat) (xs : List Int) (c : Code) : OwnF := fun k O _ W => c = .ret ∧ ∃ x, xs[0]? = some x ∧ TwoC b x 0 O W
theorem nxI19_stab (b : Nat) (M : Blk) : StabF M (NxI19 b) := fun k O F F' W W' h hs hF hO => ⟨h.1, h.2.keep hs (fun c hc => hO c (.inl hc))⟩
theorem nxX19_stab (b : Nat) (xs : List Int) (M : Blk) (c : Code) : StabF M (NxX19 b xs c) := fun k O F F' W W' ⟨h1, x, h2, h3⟩ hs hF hO => ⟨h1, x, h2, h3.keep hs (fun c hc => hO c (.inl hc))⟩
theorem nxI19_lt (b : Nat) : LtF (NxI19 b) := fun k O F W h => h.2.lt
theorem nxX19_lt (b : Nat) (xs : List Int) (c : Code) : LtF (NxX19 b xs c) := fun k O F W ⟨_, _, _, h⟩ => h.lt
theorem seekall_enters (args : Array Value) (w : World) : (callFunc 147 args).run Tryz.prog w = .ok (.enter 147 args) w := by simp [go_sem]
theorem held_ge (t : Int) : -1 ≤ heldI t := by rw [heldI]; omega
theorem held_le (t : Int) : heldI t ≤ 12622780800 := by rw [heldI]; omega
set_option maxRecDepth 100000 in
set_option maxHeartbeats 3200000 in
theorem SkNext_any (a : Option Addr) (cap : Nat) (l : List Cl) (t : Int) (w : World) (hl : l.length ≤ 9223372036854775807) (hlc : l.length ≤ cap) (hs : Sl w a (cls l)) (hno : a = none → cap = 0) (hok : ∀ c ∈ l, c.Ok) (hT : Tab w) :
    Calls Tryz.prog 58 #[.slice a l.length cap, .int .i64 t] w fun e w' => e = .returned (.tuple #[.int .i64 (nextP l t).1, .int .i64 (nextP l t).2]) ∧ Below w.heap.size w w' := by
  obtain ⟨W1, hW1⟩ : ∃ W1, (w.alloc (.cells #[.int .i64 0] 2)).alloc (.cells #[.int .i64 0] 27) = W1 := ⟨_, rfl⟩
  have hB1 : Below w.heap.size w W1 := by rw [← hW1]; exact below_new (below_new (Below.refl _ _) (zG _)) (by simp)
  have s1 : W1.heap.size = w.heap.size + 2 := by rw [← hW1]; simp
  have hC1 : TwoC w.heap.size 0 0 (fun b => b = w.heap.size ∨ b = w.heap.size + 1) W1 := by
    refine ⟨?_, ?_, ?_, ?_, .inl rfl, .inr rfl, fun c hc => by omega⟩ <;> (rw [← hW1]; simp [go_sem])
  have cO := hid (IOf_any a cap l W1 hl hlc (hs.below hB1) hno hok)
  have cH := hid (fun W => SkHeld_any t W)
  have cA := hid (fun W (hB : Below W1.heap.size W1 W) f u h => SkAllC_any a cap l f u W hl hlc ((hs.below hB1).below hB) hno hok ((hT.later hB1).later hB) h)
  have g0 := held_ge t
  have g1 := held_le t
  obtain ⟨h0, hh0⟩ : ∃ x, heldI t = x := ⟨_, rfl⟩
  have hP : Hid (nextP l t = if faultL l ≠ 0 then (0, faultL l) else headP (instA l (h0 + 1) 12622780799)) := by show _ = _; rw [nextP, hh0]
  rw [hh0] at cH g0 g1
  obtain ⟨pr, hpr⟩ : ∃ x, nextP l t = x := ⟨_, rfl⟩
  rw [hpr] at hP ⊢
  have HB1 := hid hB1
  have HW1 := hid hW1
  have S1 := hid s1
  have C1 := hid hC1
  have Ht0 : Hid (0 < w.heap.size) := hT.1
  clear hW1 hB1 hs hok hT s1 hno hlc hh0 hpr hC1
  refine (wf_calls (r := none) (n := 1)).mp ?_
  refine callsIn_of_wp_marks Tryz.func58 rfl trivial ?_ rfl
  simp only [Tryz.ntmps58, List.size_toArray, List.length_cons, List.length_nil, Nat.reduceAdd, Nat.reduceSub, Array.replicate_succ, Array.replicate_zero, List.push_toArray, List.append_toArray, List.nil_append, List.cons_append]
  gi_wp2_with fail
  rw [HW1.out]
  refine (wf_calls.mpr cO.out).mono ?_
  rintro e w2 ⟨⟨v, rfl, -⟩, hB2⟩
  have HB2 := hid hB2
  have hB02 := hid (HB1.out.trans (hB2.mono HB1.out.size))
  have C2 : Hid (TwoC w.heap.size 0 0 (fun b => b = w.heap.size ∨ b = w.heap.size + 1) w2) := C1.out.keep hB2.size (fun c hc => hB2.block c (C1.out.lt c hc))
  by_cases hf : faultL l = 0
  · have Hf := hid hf
    have cA2 := hid (cA.out w2 hB2 (h0 + 1) 12622780799 hf)
    rw [hf]
    clear hB2 hf cA
    gi_wp2_with fail
    refine (wf_calls.mpr (cH.out w2)).mono ?_
    rintro e wx ⟨rfl, hwx⟩
    rw [hwx]
    clear cH hwx
    gi_wp2_with fail
    refine (wf_calls.mpr cA2.out).mono ?_
    rintro e w3 ⟨br, bk, bps, xe, xf, xu, xr, rfl, hB3, hS3, hM3⟩
    have e1 : max (h0 + 1) 0 = h0 + 1 := by omega
    have e2 : min 12622780799 12622780799 = (12622780799 : Int) := by omega
    rw [e1, e2] at hS3
    have tl := hid (SkTells_any (cs := l) (br := br) (bk := bk) (bps := bps) xe xf xu xr (h0 + 1) 12622780799 (by omega) (by omega))
    obtain ⟨L, hL⟩ : ∃ L, instA l (h0 + 1) 12622780799 = L := ⟨_, rfl⟩
    rw [hL] at tl hP
    have hP2 : Hid (pr = headP L) := by show _ = _; rw [hP.out, if_neg (by rw [Hf.out]; simp)]
    have S12 : Hid (w.heap.size + 2 ≤ w2.heap.size) := by have := HB2.out.size; have := S1.out; show _ ≤ _; omega
    have HB3 := hid (hB02.out.trans (hB3.mono hB02.out.size))
    have C3 := hid (C2.out.keep hB3.size (fun c hc => hB3.block c (C2.out.lt c hc)))
    have HS3 := hid hS3
    have HM3 := hid hM3
    have HFO : Hid (∀ b, FSk w2 w3 b → ¬ (b = w.heap.size ∨ b = w.heap.size + 1)) := fun b hb h => by
      have := S12.out; have := Ht0.out
      rcases hb with hb | hb <;> omega
    clear hB3 hS3 hM3 hL cA2 hP e1 e2
    gi_wp2_with fail
    refine range_outerG (F := FSk w2 w3) (M := RM br bk bps) (gf := 147) (lb := #[.pointer (some ⟨xe, 0, none⟩), .pointer (some ⟨xf, 0, none⟩), .pointer (some ⟨xu, 0, none⟩), .pointer (some ⟨xr, 0, none⟩)]) rfl seekall_enters (fun b => b = w.heap.size ∨ b = w.heap.size + 1)
      (fun k vs F W h => by obtain ⟨_, _, rfl⟩ := h; rfl) tl.out HSk.host HSk.host HSk.host HS3.out HFO.out
      (NxI19 w.heap.size) (NxX19 w.heap.size L) (nxI19_stab _ _) (nxX19_stab _ _ _) (nxI19_lt _) (nxX19_lt _ _) ⟨rfl, C3.out⟩
      (fun k O F a' W => NxI19 w.heap.size k O F W ∧ ∃ x, L[0]? = some x ∧ ∃ (u0 u1 u2 u3 u6 u7 u9 u10 u11 u12 u13 u14 u15 u16 u17 u18 u19 u20 u21 u22 u23 : Value), a' = { tmps := #[u0, u1, u2, u3, .pointer (some ⟨w.heap.size, 0, none⟩), .pointer (some ⟨w.heap.size + 1, 0, none⟩), u6, u7, .int .i64 x, u9, u10, u11, u12, u13, u14, u15, u16, u17, u18, u19, u20, u21, u22, u23], defers := [] })
      ?putl ?assign ?body ?done ?stop
    case putl =>
      rintro l' o k O F a' W hr hnO hnF ⟨h1, h2⟩
      exact ⟨nxI19_stab _ (RM br bk bps) k O F F W _ h1 (by rw [World.putObj_size]; exact zG _) (fun _ h => h) (fun b hb => World.putObj_heap_other (fun e => hb.elim (fun h => hnO (e ▸ h)) (fun h => hnF (e ▸ h.1)))), h2⟩
    case assign =>
      rintro l' k O6 F6 W6 vs K hk ⟨rfl, hI⟩ hFl ⟨x, hx, rfl⟩ hG6 hK
      have HI := hid hI
      have Hx := hid hx
      clear hI hx hG6 hFl
      gi_wp2
      exact hK _ O6 W6 (Grow.refl _ _) ⟨⟨rfl, HI.out⟩, x, Hx.out, _, _, _, _, _, _, _, _, _, _, _, _, _, _, _, _, _, _, _, _, _, rfl⟩
    case body =>
      rintro l3 k O6 F6 a' W6 hk hG6 hl3 hrec6 hnl3 hnF3 ⟨⟨rfl, hI⟩, x, hx, u0, u1, u2, u3, u6, u7, u9, u10, u11, u12, u13, u14, u15, u16, u17, u18, u19, u20, u21, u22, u23, rfl⟩
      have HI := hid hI
      have Hx := hid hx
      obtain ⟨c4, c5, f4, f5, -, -, -⟩ := hI
      clear hx hG6 hk
      gi_wp2
      exact ⟨O6, ⟨fun _ h => h, fun _ h => .inl h, ((Eff.refl O6 W6).set HI.out.o4 _ _).set HI.out.o5 _ _⟩, rfl, x, Hx.out, HI.out.set⟩
    case stop =>
      rintro c k O9 F9 w9 hk1 hk2 hG9 hHN hFs hFn hFO9 ⟨rfl, x, hx, hX⟩ hD hnD hnF
      have hX' : TwoC w.heap.size x 0 O9 (w9.putObj w3.heap.size (.deferred none)) := hX.keep (by rw [World.putObj_size]; exact zG _) (fun b hb => World.putObj_heap_other (fun e => hnD (e ▸ hb)))
      have hBf : Hid (Below w.heap.size w (w9.putObj w3.heap.size (.deferred none))) := below_putObj (HB3.out.trans (hG9.eff.below (fun b hb => by
        rcases hb with (h | h) | h
        · omega
        · omega
        · have := HM3.out b h; have := S12.out; omega) HB3.out.size)) HB3.out.size _
      have HD := hid hD
      have HX := hid hX'
      have hpr : Hid (pr = (x, 0)) := by
        show _ = _
        rw [hP2.out]
        cases L with
        | nil => simp at hx
        | cons y m => simp at hx; rw [hx]; rfl
      clear hX hG9 hD hX' hHN hFs hFn hFO9 hnD hnF hx
      gi_wp2
      refine ⟨by simp, .inl ⟨_, _, rfl, run_takeDeferred HD.out, ?_⟩⟩
      obtain ⟨c4, c5, -, -, -, -, -⟩ := HX.out
      refine ⟨.tuple #[.int .i64 x, .int .i64 0], ?_, by rw [hpr.out], hBf.out⟩
      simp [results, Tryz.results58, go_sem, c4, c5]
    case done =>
      rintro O9 F9 w9 hG9 hHN hFs hFn hFO9 ⟨hk, hI⟩ hD hnD hnF
      have hpr : Hid (pr = (0, 15)) := by
        show _ = _
        rw [hP2.out, show L = [] from List.length_eq_zero_iff.mp hk]; rfl
      have hX' := hI.set (x' := 0) (y' := 15)
      have hB9 : Below w.heap.size w w9 := HB3.out.trans (hG9.eff.below (fun b hb => by
        rcases hb with (h | h) | h
        · omega
        · omega
        · have := HM3.out b h; have := S12.out; omega) HB3.out.size)
      have HB9 := hid hB9
      have HX := hid hX'
      have HDx : Hid (((w9.setCell ⟨w.heap.size, 0, none⟩ (.int .i64 0)).setCell ⟨w.heap.size + 1, 0, none⟩ (.int .i64 15)).heap[w3.heap.size]? = some (.deferred (some []))) := by
        show _ = _
        rw [Below.heap_setCell _ _ _ _ (fun e => hnD (by rw [e]; exact hI.o5)), Below.heap_setCell _ _ _ _ (fun e => hnD (by rw [e]; exact hI.o4))]
        exact hD
      have HND := hid hnD
      obtain ⟨c4, c5, f4, f5, -, -, -⟩ := hI
      clear hG9 hHN hFs hFn hFO9 hnD hnF hD hB9 hX' hk
      gi_wp2
      refine ⟨by simp, .inl ⟨_, _, rfl, run_takeDeferred HDx.out, ?_⟩⟩
      have hBf := below_putObj (below_set (below_set HB9.out (by omega)) (by omega) : Below w.heap.size w ((w9.setCell ⟨w.heap.size, 0, none⟩ (.int .i64 0)).setCell ⟨w.heap.size + 1, 0, none⟩ (.int .i64 15))) HB3.out.size (.deferred none)
      have hX2 := HX.out.keep (W' := ((w9.setCell ⟨w.heap.size, 0, none⟩ (.int .i64 0)).setCell ⟨w.heap.size + 1, 0, none⟩ (.int .i64 15)).putObj w3.heap.size (.deferred none)) (by rw [World.putObj_size]; exact zG _) (fun b hb => World.putObj_heap_other (fun e => HND.out (e ▸ hb)))
      refine ⟨.tuple #[.int .i64 0, .int .i64 15], ?_, by rw [hpr.out], hBf⟩
      obtain ⟨WF, hWF⟩ : ∃ W, ((w9.setCell ⟨w.heap.size, 0, none⟩ (.int .i64 0)).setCell ⟨w.heap.size + 1, 0, none⟩ (.int .i64 15)).putObj w3.heap.size (.deferred none) = W := ⟨_, rfl⟩
      rw [hWF] at hX2
      obtain ⟨c4, c5, -, -, -, -, -⟩ := hX2
      rw [hWF]
      simp [results, Tryz.results58, go_sem, c4, c5]
  · have hpr : Hid (pr = (0, faultL l)) := by show _ = _; rw [hP.out, if_pos hf]
    have hBf : Hid (Below w.heap.size w ((w2.setCell ⟨w.heap.size, 0, none⟩ (.int .i64 0)).setCell ⟨w.heap.size + 1, 0, none⟩ (.int .i64 (faultL l)))) := below_set (below_set hB02.out (by omega)) (by omega)
    obtain ⟨X, hX⟩ : ∃ X, faultL l = X := ⟨_, rfl⟩
    rw [hX] at hf hpr hBf ⊢
    have HX := hid (C2.out.set (x' := 0) (y' := X))
    obtain ⟨c4, c5, f4, f5, -, -, -⟩ := C2.out
    have hX0 : (X == 0) = false := by simpa using hf
    have hX1 : (X != 0) = true := by simpa using hf
    clear hB2 cA hX hP
    gi_wp2
    obtain ⟨d4, d5, -, -, -, -, -⟩ := HX.out
    refine ⟨_, ?_, by rw [hpr.out], hBf.out⟩
    simp [results, Tryz.results58, go_sem, d4, d5]
set_option maxRecDepth 100000 in
set_option maxHeartbeats 800000 in
theorem SkFirst_any (a : Option Addr) (cap : Nat) (l : List Cl) (w : World) (hl : l.length ≤ 9223372036854775807) (hlc : l.length ≤ cap) (hs : Sl w a (cls l)) (hno : a = none → cap = 0) (hok : ∀ c ∈ l, c.Ok) (hT : Tab w) :
    Calls Tryz.prog 31 #[.slice a l.length cap] w fun e w' => e = .returned (.tuple #[.int .i64 (nextP l (-1)).1, .int .i64 (nextP l (-1)).2]) ∧ Below w.heap.size w w' := by
  have cN := hid (SkNext_any a cap l (-1) w hl hlc hs hno hok hT)
  obtain ⟨pr, hpr⟩ : ∃ x, nextP l (-1) = x := ⟨_, rfl⟩
  rw [hpr] at cN ⊢
  clear hs hno hok hT hpr
  go_enter Tryz.func31, Tryz.ntmps31
  go_wp2_with fail
  refine cN.out.mono ?_
  rintro e w2 ⟨rfl, hB⟩
  have HB := hid hB
  clear hB
  go_wp2
  go_ret2
  exact ⟨rfl, HB.out⟩
end
section
open Go.RowKit Go.Maps

theorem rising_len {L : List Int} (hp : L.Pairwise (· < ·)) {lo hi : Int} (h : ∀ x ∈ L, lo ≤ x ∧ x ≤ hi) : L.length = 0 ∨ (L.length : Int) ≤ hi - lo + 1 := by
  have key : ∀ i (h2 : i < L.length), lo + i ≤ L[i] := by
    intro i
    induction i with
    | zero => intro h2; have := (h _ (List.getElem_mem h2)).1; omega
    | succ i ih =>
      intro h2
      have h3 := ih (by omega)
      have h4 := List.pairwise_iff_getElem.1 hp i (i + 1) (by omega) h2 (by omega)
      omega
  rcases Nat.eq_zero_or_pos L.length with h0 | h0
  · exact .inl h0
  · have h1 := key (L.length - 1) (by omega)
    have h2 := (h _ (List.getElem_mem (show L.length - 1 < L.length by omega))).2
    exact .inr (by omega)
theorem cntT_le (cs : List Cl) (f u : Int) : cntT cs f u ≤ 12622780800 := by
  rcases rising_len (instA_up cs f u) (lo := 0) (hi := 12622780799) (fun x hx => by have := inst_win (instA_mem.1 hx).2.2; omega) with h | h
  · rw [cntT, h]; omega
  · rw [cntT]; omega
theorem cntI_le (cs : List Cl) (f u : Int) (ds : List Int) (k : Nat) : cntI cs f u ds k ≤ (instL cs f u ds).length := by
  have e : instL cs f u ds = instL cs f u (ds.take k) ++ instL cs f u (ds.drop k) := by
    rw [instL, instL, instL, ← List.flatMap_append, List.take_append_drop]
  rw [e, List.length_append, cntI]; omega
theorem run_same_diff {P : Program} {w : World} {d x : Nat} (cd : (w.cell? ⟨d, 0, none⟩).isSome = true) (cx : (w.cell? ⟨x, 0, none⟩).isSome = true) (hd : ∀ i, w.frozen? ⟨d, i, none⟩ = false) (hx : ∀ i, w.frozen? ⟨x, i, none⟩ = false) (hne : d ≠ x) :
    (sameAddr ⟨d, 0, none⟩ ⟨x, 0, none⟩).run P w = .ok false w := by
  have key : ∀ b, (w.cell? ⟨b, 0, none⟩).isSome = true → ∃ c t s, w.heap[b]? = some (.cells c t s) := fun b h => by
    unfold World.cell? at h
    split at h
    · exact ⟨_, _, _, by assumption⟩
    · cases h
  obtain ⟨c1, t1, s1, e1⟩ := key d cd
  obtain ⟨c2, t2, s2, e2⟩ := key x cx
  have sd : w.shape? d = some (t1, c1.size) := by unfold World.shape?; rw [e1]
  have sx : w.shape? x = some (t2, c2.size) := by unfold World.shape?; rw [e2]
  simp [sameAddr, hne, noView, viewAt, mayBeOne, stringish, hd, hx, sd, sx]
theorem pNeq_run {P : Program} {w : World} {tp te : TypeId} {j : TypeInfo} (hp : P.underlying tp = some (.pointer te)) (hte : P.info? te = some j) (hsz : j.size ≠ 0) {d x : Nat} (cd : (w.cell? ⟨d, 0, none⟩).isSome = true) (cx : (w.cell? ⟨x, 0, none⟩).isSome = true) (hd : ∀ i, w.frozen? ⟨d, i, none⟩ = false) (hx : ∀ i, w.frozen? ⟨x, i, none⟩ = false) :
    (binOp .neq tp (.pointer (some ⟨d, 0, none⟩)) (.pointer (some ⟨x, 0, none⟩))).run P w = .ok (.bool (decide (d ≠ x))) w := by
  have hs : (sameAddr ⟨d, 0, none⟩ ⟨x, 0, none⟩).run P w = .ok (decide (d = x)) w := by
    by_cases hne : d = x
    · subst hne; rw [run_sameAddr_same]; simp
    · rw [run_same_diff cd cx hd hx hne]; simp [hne]
  have h : ∀ n : Nat, (Op.equalIn (n + 1) tp (.pointer (some ⟨d, 0, none⟩)) (.pointer (some ⟨x, 0, none⟩))).run P w = .ok (decide (d = x)) w := fun n => by
    simp [Op.equalIn, run_underlying hp, sizeOf, typeInfo, hte, hsz, hs]
  simp only [binOp]
  simp [Op.equal, Op.maxDepth, h 9999]
theorem dNeq_run {w : World} {d x : Nat} {q q' : Nat → Bool} (hd : DiscAt w d q) (hx : DiscAt w x q') : (binOp .neq 88 (.pointer (some ⟨d, 0, none⟩)) (.pointer (some ⟨x, 0, none⟩))).run Tryz.prog w = .ok (.bool (decide (d ≠ x))) w := by
  have hi : ((Tryz.prog.info? 142).map fun i => decide (i.size ≠ 0)) = some true := by kernel_rfl
  obtain ⟨f, h1, h2, -⟩ := hd
  obtain ⟨g, g1, g2, -⟩ := hx
  cases hj : Tryz.prog.info? 142 with
  | none => rw [hj] at hi; cases hi
  | some j =>
    rw [hj] at hi
    exact pNeq_run Tryz.underlying88 hj (by simpa using hi) (by rw [h1 0 (by omega)]; rfl) (by rw [g1 0 (by omega)]; rfl) h2 g2
structure CntC (bl : Nat) (c : Option Nat) (m : Int) (W : World) : Prop where
  cl : W.cell? ⟨bl, 0, none⟩ = some (dptr c)
  cm : W.cell? ⟨bl + 1, 0, none⟩ = some (.int .i64 m)
  fl : W.frozen? ⟨bl, 0, none⟩ = false
  fm : W.frozen? ⟨bl + 1, 0, none⟩ = false
  lt : bl + 1 < W.heap.size
theorem CntC.block {bl : Nat} {c : Option Nat} {m : Int} {W W' : World} (h : CntC bl c m W) (hs : W.heap.size ≤ W'.heap.size) (h0 : W'.heap[bl]? = W.heap[bl]?) (h1 : W'.heap[bl + 1]? = W.heap[bl + 1]?) : CntC bl c m W' :=
  ⟨(World.cell?_of_block (w := W) (a := ⟨bl, 0, none⟩) h0).trans h.cl, (World.cell?_of_block (w := W) (a := ⟨bl + 1, 0, none⟩) h1).trans h.cm,
   (World.frozen?_of_block (w := W) (a := ⟨bl, 0, none⟩) h0).trans h.fl, (World.frozen?_of_block (w := W) (a := ⟨bl + 1, 0, none⟩) h1).trans h.fm, zH h.lt hs⟩
theorem CntC.set {bl : Nat} {c c' : Option Nat} {m m' : Int} {W : World} (h : CntC bl c m W) : CntC bl c' m' ((W.setCell ⟨bl, 0, none⟩ (dptr c')).setCell ⟨bl + 1, 0, none⟩ (.int .i64 m')) := by
  obtain ⟨h1, h2, h3, h4, h5⟩ := h
  refine ⟨?_, ?_, ?_, ?_, by simpa using h5⟩ <;> simp [go_sem, h1, h2, h3, h4]
def Knows (c : Option Nat) (m : Int) (M F : Blk) (W : World) : Prop := ∀ x, c = some x → F x ∧ ¬ M x ∧ ∃ q, DiscAt W x q ∧ m = ((secL q).length : Nat)
theorem Knows.none {m : Int} {M F : Blk} {W : World} : Knows none m M F W := fun x h => by cases h
theorem Knows.keep {c : Option Nat} {m : Int} {M F F' : Blk} {W W' : World} (h : Knows c m M F W) (hs : W.heap.size ≤ W'.heap.size) (hF : ∀ b, F b → F' b) (hb : ∀ b, F b ∧ ¬ M b → W'.heap[b]? = W.heap[b]?) : Knows c m M F' W' := fun x hx => by
  obtain ⟨h1, h2, q, h3, h4⟩ := h x hx
  exact ⟨hF x h1, h2, q, h3.block hs (hb x ⟨h1, h2⟩), h4⟩
abbrev cntV (bl : Nat) : Value := .func (.func 91) #[] #[.pointer (some ⟨bl, 0, none⟩), .pointer (some ⟨bl + 1, 0, none⟩)]
set_option maxRecDepth 100000 in
theorem Counter_any (w : World) : Calls Tryz.prog 52 #[] w fun e w' => e = .returned (.func (.func 91) #[] #[.pointer (some ⟨w.heap.size, 0, none⟩), .pointer (some ⟨w.heap.size + 1, 0, none⟩)]) ∧ w' = (w.alloc (.cells #[.pointer none] 88)).alloc (.cells #[.int .i64 0] 2) := by
  go_enter Tryz.func52, Tryz.ntmps52
  go_wp2
  go_ret
  exact ⟨rfl, rfl⟩
set_option maxRecDepth 100000 in
set_option maxHeartbeats 1600000 in
theorem Cnt_any (bl d : Nat) (q : Nat → Bool) (c : Option Nat) (m : Int) (W : World) (h : CntC bl c m W) (hk : ∀ x, c = some x → ∃ q, DiscAt W x q ∧ m = ((secL q).length : Nat)) (hd : DiscAt W d q) :
    Calls Tryz.prog 91 #[.pointer (some ⟨d, 0, none⟩), .pointer (some ⟨bl, 0, none⟩), .pointer (some ⟨bl + 1, 0, none⟩)] W fun e W' => e = .returned (.int .i64 ((secL q).length : Nat)) ∧ Eff (fun b => b = bl ∨ b = bl + 1) W W' ∧ CntC bl (some d) ((secL q).length : Nat) W' := by
  have cL := hid (DLenO_any (some d) q W hd)
  have hl := secL_len q
  have hu : ∀ q', DiscAt W d q' → (secL q').length = (secL q).length := fun q' h' => by
    have e : (List.range 86400).filter q' = (List.range 86400).filter q := List.filter_congr fun k hk => DiscAt.unique h' hd k (List.mem_range.1 hk)
    rw [secL, secL, sel, sel, e]
  by_cases hc : c = some d
  · subst hc
    obtain ⟨q', h1, rfl⟩ := hk d rfl
    have e := hu q' h1
    have hb := dNeq_run hd h1
    rw [show decide (d ≠ d) = false by simp] at hb
    have H := hid h
    rw [e] at H
    obtain ⟨c1, c2, f1, f2, -⟩ := h
    rw [e] at c2
    replace c1 : W.cell? ⟨bl, 0, none⟩ = some (.pointer (some ⟨d, 0, none⟩)) := c1
    generalize (secL q).length = L at *
    clear hd hu cL h1 e hk
    go_enter Tryz.func91, Tryz.ntmps91
    go_wp2
    go_ret
    exact ⟨rfl, Eff.refl _ _, H.out⟩
  · have hX := hid (h.set (c' := some d) (m' := ((secL q).length : Nat)))
    have hE : Hid (Eff (fun b => b = bl ∨ b = bl + 1) W ((W.setCell ⟨bl, 0, none⟩ (dptr (some d))).setCell ⟨bl + 1, 0, none⟩ (.int .i64 ((secL q).length : Nat)))) := ((Eff.refl _ W).set (.inl rfl) _ _).set (.inr rfl) _ _
    obtain ⟨c1, c2, f1, f2, -⟩ := h
    generalize (secL q).length = L at *
    have hLi : IntKind.i64.wrap (L : Int) = L := IntWalk.i64_in (L : Int) (by omega)
    clear hu
    cases c with
    | none =>
      clear hd hk
      replace c1 : W.cell? ⟨bl, 0, none⟩ = some (.pointer none) := c1
      go_enter Tryz.func91, Tryz.ntmps91
      go_wp2_with fail
      refine cL.out.mono ?_
      rintro e w1 ⟨rfl, rfl⟩
      go_wp2
      go_ret
      exact ⟨rfl, hE.out, hX.out⟩
    | some x =>
      have hx : x ≠ d := fun e => hc (by rw [e])
      have hx2 : d ≠ x := fun e => hx e.symm
      obtain ⟨q', h1, -⟩ := hk x rfl
      have hb := dNeq_run hd h1
      rw [decide_eq_true hx2] at hb
      clear h1 hd hk
      replace c1 : W.cell? ⟨bl, 0, none⟩ = some (.pointer (some ⟨x, 0, none⟩)) := c1
      go_enter Tryz.func91, Tryz.ntmps91
      go_wp2_with fail
      refine cL.out.mono ?_
      rintro e w1 ⟨rfl, rfl⟩
      go_wp2
      go_ret
      exact ⟨rfl, hE.out, hX.out⟩
theorem part_stop {cs : List Cl} {n u s at' : Int} {ok : Bool} (h : FirstOf (fun k => dayQ cs n k && decide (s ≤ (k : Int))) at' ok) (hs : ok = false ∨ u - 86400 * n < at') : remI cs n u s = [] := by
  obtain ⟨-, h2, h3, -⟩ := rem_first (u := u) h
  cases ok
  · exact h3 rfl
  · exact h2 rfl (by rcases hs with hs | hs; cases hs; omega)
theorem part_go {cs : List Cl} {n u s at' : Int} (h : FirstOf (fun k => dayQ cs n k && decide (s ≤ (k : Int))) at' true) (hs : at' ≤ u - 86400 * n) : (remI cs n u s).length = (remI cs n u (at' + 1)).length + 1 ∧ 0 ≤ at' ∧ at' < 86400 := by
  obtain ⟨h1, -, -, h4⟩ := rem_first (u := u) h
  obtain ⟨-, g1, g2, -⟩ := h4 rfl
  exact ⟨by rw [h1 rfl (by omega)]; rfl, g1, g2⟩
theorem rem_len (cs : List Cl) (n u s : Int) : (remI cs n u s).length ≤ 86400 := secL_len _
set_option maxRecDepth 100000 in
set_option maxHeartbeats 1600000 in
theorem Part_any (d : Nat) (cs : List Cl) (n F U : Int) (W : World) (n0 : 0 ≤ n) (n1 : n < 146097) (f0 : 0 ≤ F) (f1 : F ≤ 12622780799) (u0 : 0 ≤ U) (u1 : U ≤ 12622780799) (hT : Tab W) (hd : DiscAt W d (dayQ cs n)) :
    Calls Tryz.prog 54 #[.pointer (some ⟨d, 0, none⟩), .int .i64 (F - 86400 * n), .int .i64 (U - 86400 * n)] W fun e W' => e = .returned (.int .i64 ((dayI cs F U n).length : Nat)) ∧ W' = W := by
  have cN := hid (fun (s : Int) h1 h2 => DNextO_any (some d) (dayQ cs n) s W h1 h2 hT hd)
  have hlen : (dayI cs F U n).length = (remI cs n U (max 0 (F - 86400 * n))).length := by rw [dayI, List.length_map]
  rw [hlen]
  obtain ⟨L, hL⟩ : ∃ L, (remI cs n U (max 0 (F - 86400 * n))).length = L := ⟨_, rfl⟩
  have hLb : L ≤ 86400 := by rw [← hL]; exact rem_len _ _ _ _
  rw [hL]
  have HL := hid hL
  obtain ⟨f, hf⟩ : ∃ f, F - 86400 * n = f := ⟨_, rfl⟩
  obtain ⟨u, hu⟩ : ∃ u, U - 86400 * n = u := ⟨_, rfl⟩
  have hfb : -12622780800 ≤ f ∧ f ≤ 12622780799 := by omega
  have hub : -12622780800 ≤ u ∧ u ≤ 12622780799 := by omega
  have HU := hid hu
  have HF := hid hf
  rw [hf, hu]
  clear hd hT hlen hL hf hu
  have c1 := hid (fun (s : Int) (h : s = max 0 f) => (cN.out (max 0 f) (by omega) (by omega)))
  have c1' : Hid (∀ s, s = max 0 f → Calls Tryz.prog 50 #[.pointer (some ⟨d, 0, none⟩), .int .i64 s] W fun r w' => (∃ n1 ok, r = .returned (.tuple #[.int .i64 n1, .bool ok]) ∧ FirstOf (fun k => dayQ cs n k && decide (max 0 f ≤ (k : Int))) n1 ok) ∧ W = w') := by
    rintro s rfl; exact c1.out _ rfl
  clear c1
  have mid : ∀ (at' : Int) (ok : Bool), FirstOf (fun k => dayQ cs n k && decide (max 0 f ≤ (k : Int))) at' ok → Hid (FirstOf (fun k => dayQ cs n k && decide (max 0 f ≤ (k : Int))) at' ok) := fun _ _ h => h
  go_enter Tryz.func54, Tryz.ntmps54
  go_wp2_with fail
  all_goals
    refine (c1'.out _ (by omega)).mono ?_
    rintro e w1 ⟨⟨at0, ok0, rfl, hF0⟩, rfl⟩
    have hF0 := mid _ _ hF0
    go_wp2_with fail
    go_loopw [7, 8, 9] (fun mv av ov wr => ∃ (many : Nat) (s at' : Int) (ok : Bool), mv = .int .i64 many ∧ av = .int .i64 at' ∧ ov = .bool ok ∧ wr = W ∧ many ≤ 86400 ∧ (ok = true → 0 ≤ at' ∧ at' < 86400) ∧ Hid (many + (remI cs n U s).length = L ∧ FirstOf (fun k => dayQ cs n k && decide (s ≤ (k : Int))) at' ok)) (fun mv _ _ _ => L - (intOf mv).toNat)
    case atStart =>
      refine ⟨0, max 0 f, at0, ok0, rfl, rfl, rfl, rfl, by omega, fun h => ?_, ?_, hF0.out⟩
      · rcases hF0.out with ⟨-, k, rfl, hk, -⟩ | ⟨h2, -⟩
        · omega
        · rw [h] at h2; cases h2
      · have := HL.out; have h2 := HF.out; rw [h2] at this; omega
    case round =>
      obtain ⟨many, s, at', ok, rfl, rfl, rfl, rfl, hm, ha, hI⟩ := hrel
      cases ok
      · have hz : Hid (many = L) := by
          have := hI.out.1; rw [part_stop hI.out.2 (.inl rfl)] at this; exact this
        clear hI
        go_wp2
        go_ret
        exact ⟨by rw [hz.out]; rfl, rfl⟩
      · obtain ⟨a0, a1⟩ := ha rfl
        clear ha
        by_cases hu : at' ≤ u
        · have hg := part_go hI.out.2 (by have := HU.out; omega : at' ≤ U - 86400 * n)
          have h1 := hI.out.1
          have HG := hid (show many + 1 + (remI cs n U (at' + 1)).length = L by omega)
          have hm2 : many < L := by omega
          have q := hid (cN.out (at' + 1) (by omega) (by omega))
          clear hI hg h1
          go_wp2_with fail
          refine q.out.mono ?_
          rintro e w2 ⟨⟨at2, ok2, rfl, hF2⟩, rfl⟩
          have hF2 := hid hF2
          go_wp2
          refine ⟨⟨many + 1, at' + 1, at2, ok2, by go_num, by trivial, by trivial, by trivial, by omega, fun h => ?_, HG.out, hF2.out⟩, by simp [intOf]; omega⟩
          rcases hF2.out with ⟨-, k, rfl, hk, -⟩ | ⟨h2, -⟩
          · omega
          · rw [h] at h2; cases h2
        · have hz : Hid (many = L) := by
            have := hI.out.1; rw [part_stop hI.out.2 (.inr (by have := HU.out; omega))] at this; exact this
          clear hI
          go_wp2
          go_ret
          exact ⟨by rw [hz.out]; rfl, rfl⟩
end
section
open Go.RowKit

def noDefer (o : Oper) : Bool := match o.op with | .defer _ => false | _ => true
theorem noDefer_ne {o : Oper} (h : noDefer o = true) : ∀ c, o.op ≠ .defer c := by
  intro c e; rw [noDefer, e] at h; cases h
theorem operW {l n : Nat} {P : Program} {o : Oper} {a : Act} {w : World} {K : Act → World → Prop} {Q : Exit → Act → World → Prop} (hd : noDefer o = true) (hL : ¬ LetsOut Q) (h : o.wp P a w K Q) : o.wpIn (WF (some l)) n P a w K Q := by
  refine ⟨fun _ _ => trivial, ?_⟩
  have e2 : o.semAt (WF (some l)).round a.eval = execOp a.eval o := Oper.semAt_eq _ _ _ (noDefer_ne hd)
  rw [e2]
  unfold Oper.wp at h
  generalize (execOp a.eval o).run P w = r at *
  cases r with
  | ok x w' =>
    cases x <;> simp only [Oper.uponIn, Oper.upon] at h ⊢ <;>
      first
        | exact h
        | exact ⟨fun h => (by cases h), wf_calls.mpr h⟩
        | exact ⟨fun h => (by cases h), fun c cs _ => let ⟨v, w'', r, s⟩ := h c cs; ⟨v, w'', r, stepsIn_wide.mpr s⟩⟩
  | halt x w' => cases x <;> simp only [Oper.uponIn, Oper.upon] at h ⊢ <;> exact h
theorem opW {l n i : Nat} {P : Program} {ops : Array Oper} {K K' : Act → World → Prop} {Q : Exit → Act → World → Prop} (hd : ops.all noDefer = true) (hL : ¬ LetsOut Q) (hK : ∀ a w, K a w → K' a w) {a : Act} {w : World} (h : wpOp P ops Q i K a w) : wpOpIn (WF (some l)) n P ops Q i K' a w := by
  unfold wpOp at h
  unfold wpOpIn
  cases ho : ops[i]? with
  | none => simp only [ho] at h ⊢; exact hK _ _ h
  | some o =>
    simp only [ho] at h ⊢
    have hdo : noDefer o = true := by
      rw [Array.all_eq_true] at hd
      obtain ⟨hi, rfl⟩ := Array.getElem?_eq_some_iff.1 ho
      exact hd i hi
    split
    · rename_i hw
      rw [if_pos hw] at h
      rcases h with h | h
      · exact operW hdo hL (Oper.wp_mono hK h)
      · exact absurd h.2 hL
    · rename_i hw
      rw [if_neg hw] at h
      exact ⟨fun _ _ => trivial, hK _ _ h⟩
theorem anyW {l n : Nat} {P : Program} {md : Region.Mode} {ops : Array Oper} {Q : Exit → Act → World → Prop} (hd : ops.all noDefer = true) (hL : ¬ LetsOut Q) : ∀ (fuel : Nat) (listed : Array Bool) (a : Act) (w : World), wpAny P md ops Q fuel listed a w → wpAnyIn (WF (some l)) n P md ops Q fuel listed a w
  | 0, _, _, _, h => h
  | fuel + 1, listed, a, w, h => ⟨h.1, fun i hi => opW hd hL (fun a w => anyW hd hL fuel _ a w) (h.2 i hi)⟩
theorem regW {l n id : Nat} {P : Program} {ops : Array Oper} {S : World → Prop} {Q : Exit → Act → World → Prop} {a : Act} {w : World} (hm : P.follows .mixedOrders = true) (hd : ops.all noDefer = true) (hL : ¬ LetsOut Q) (hS : S w.drew)
    (h : S w.drew → wpAnyH P .any ops Q S ops.size (Array.replicate ops.size false) a w.drew) : (Code.region id ops true).wpIn (WF (some l)) n P Q a w :=
  wpIn_region_any hm (anyW hd hL _ _ _ _ (wpAny_of_held _ _ _ _ (h hS)))
end
end Go.Proofs.YtchceegpbfecaaaGreatDoor

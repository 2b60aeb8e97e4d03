/-
  seek.held and seek.All.
  seek.Next and seek.First.
  seek.Prev and seek.Last.
  What Next and Prev of a set tell, in plain words.
  ferialaw17.May: the document's answer for sets.
  feriaref13.Has.
  ferialaw19.between and ferialaw19.lives.
  The append laws in a fenced walk.
-/
import Derived.Test.YtcbanlgnanihhaaGreatDoorQc75524
import Derived.Test.YtcbanlgnanihhaaGreatDoorQf66f2e
import Derived.BigRegion
import Derived.Test.YtcbanlgnanihhaaGreatDoorQ70007a
import Derived.Shelf.Strconv.Itoa0
import Derived.Test.YtcbanlgnanihhaaGreatDoorQf93f46
import Derived.Test.YtcbanlgnanihhaaGreatDoorQ6e7185
import Derived.Test.YtcbanlgnanihhaaGreatDoorQe8d321
import Derived.Test.YtcbanlgnanihhaaGreatDoorQ8275f2
import Derived.Test.YtcbanlgnanihhaaGreatDoorQe26112
namespace Go.Proofs.YtcbanlgnanihhaaGreatDoor
open Go.RowKit Go.Maps
set_option linter.unusedVariables false

def heldI (t : Int) : Int := min (max t (-1)) 12622780800
set_option maxRecDepth 100000 in
set_option maxHeartbeats 800000 in
theorem NHeld_any (n lo hi : Int) (w : World) :
    Calls Tryz.prog 94 #[.int .i64 n, .int .i64 lo, .int .i64 hi] w fun e w' => e = .returned (.int .i64 (min (max n lo) hi)) ∧ w' = w := by
  go_enter Tryz.func94, Tryz.ntmps94
  go_wp2
  all_goals go_ret
  all_goals first
    | exact ⟨rfl, rfl⟩
    | exact ⟨by rw [show min (max n lo) hi = hi by omega]; rfl, rfl⟩
    | exact ⟨by rw [show min (max n lo) hi = n by omega]; rfl, rfl⟩
    | exact ⟨by rw [show min (max n lo) hi = lo by omega]; rfl, rfl⟩
theorem SkHeld_any (t : Int) (w : World) :
    Calls Tryz.prog 44 #[.int .i64 t] w fun e w' => e = .returned (.int .i64 (heldI t)) ∧ w' = w := by
  have cH := hid (NHeld_any t (-1) 12622780800 w)
  obtain ⟨X, hX⟩ : ∃ X, heldI t = X := ⟨_, rfl⟩
  rw [show min (max t (-1)) 12622780800 = heldI t from rfl, hX] at cH
  rw [hX]
  clear hX
  go_enter Tryz.func44, Tryz.ntmps44
  go_wp2_with fail
  refine cH.out.mono ?_
  rintro e w2 ⟨rfl, rfl⟩
  go_wp2
  go_ret
  exact ⟨rfl, rfl⟩
def FSk (W W' : World) : Blk := fun b => (W.heap.size ≤ b ∧ b < W'.heap.size) ∨ b = 0
set_option maxRecDepth 100000 in
set_option maxHeartbeats 1600000 in
theorem SkAllC_any (a : Option Addr) (cap : Nat) (l : List Cl) (f u : Int) (W : World) (hl : l.length ≤ 9223372036854775807) (hlc : l.length ≤ cap) (hs : Sl W a (cls l)) (hno : a = none → cap = 0) (hok : ∀ c ∈ l, c.Ok) (hT : Tab W) (hf : faultL l = 0) :
    Calls Tryz.prog 22 #[.slice a l.length cap, .int .i64 f, .int .i64 u] W fun e W' => ∃ br bk bps xe xf xu xr, e = .returned (.func (.func 47) #[] #[.pointer (some ⟨xe, 0, none⟩), .pointer (some ⟨xf, 0, none⟩), .pointer (some ⟨xu, 0, none⟩), .pointer (some ⟨xr, 0, none⟩)]) ∧ Below W.heap.size W W' ∧
      HSk l br bk bps xe xf xu xr (max f 0) (min u 12622780799) (InvS 0) (FSk W W') W' ∧ ∀ b, RM br bk bps b → W.heap.size ≤ b := by
  obtain ⟨W1, hW1⟩ : ∃ W1, (W.alloc (.cells #[.int .i64 f] 2)).alloc (.cells #[.int .i64 u] 2) = W1 := ⟨_, rfl⟩
  have hB1 : Below W.heap.size W W1 := by rw [← hW1]; exact below_new (below_new (Below.refl _ _) (Nat.le_refl _)) (by simp)
  have s1 : W1.heap.size = W.heap.size + 2 := by rw [← hW1]; simp
  have k4 : W1.cell? ⟨W.heap.size, 0, none⟩ = some (.int .i64 f) := by rw [← hW1]; simp [go_sem]
  have k5 : W1.cell? ⟨W.heap.size + 1, 0, none⟩ = some (.int .i64 u) := by rw [← hW1]; simp [go_sem]
  have z4 : W1.frozen? ⟨W.heap.size, 0, none⟩ = false := by rw [← hW1]; simp [go_sem]
  have z5 : W1.frozen? ⟨W.heap.size + 1, 0, none⟩ = false := by rw [← hW1]; simp [go_sem]
  have cN := hid (RNew_any a cap l W1 hl hlc (hs.below hB1) hno hok (hT.later hB1))
  have HB1 := hid hB1
  have HW1 := hid hW1
  have S1 := hid s1
  have Hf := hid hf
  have HTt := hid hT
  clear hW1 hB1 hs hok hT s1 hno hlc hf
  go_enter Tryz.func22, Tryz.ntmps22
  go_upto_region 1 with fail
  rw [HW1.out]
  go_wp2_with fail
  refine cN.out.mono ?_
  rintro e w2 ⟨hN, hB2⟩
  rcases hN with ⟨hX, -⟩ | ⟨hX, br, bk, bps, rfl, hR, hM⟩
  · exact absurd Hf.out hX
  have j4 := (hB2.cell (p := ⟨W.heap.size, 0, none⟩) (by have := S1.out; simp only []; omega)).trans k4
  have j5 := (hB2.cell (p := ⟨W.heap.size + 1, 0, none⟩) (by have := S1.out; simp only []; omega)).trans k5
  have y4 := (hB2.frozen (p := ⟨W.heap.size, 0, none⟩) (by have := S1.out; simp only []; omega)).trans z4
  have y5 := (hB2.frozen (p := ⟨W.heap.size + 1, 0, none⟩) (by have := S1.out; simp only []; omega)).trans z5
  have HB2 := hid (HB1.out.trans (hB2.mono HB1.out.size))
  have S2 : Hid (W.heap.size + 2 ≤ w2.heap.size) := by have := hB2.size; have := S1.out; show _ ≤ _; omega
  have HR2 := hid hR
  have HM := hid hM
  clear hX hB2 k4 k5 z4 z5 hR hM
  go_upto_region 2 with fail
  obtain ⟨w3, hw3⟩ : ∃ w3, (w2.alloc (.cells #[.pointer (some ⟨br, 0, none⟩)] 33)).alloc (.cells #[.int .i64 0] 34) = w3 := ⟨_, rfl⟩
  have hB3 : Below w2.heap.size w2 w3 := by rw [← hw3]; exact below_new (below_new (Below.refl _ _) (Nat.le_refl _)) (by simp)
  have s3 : w3.heap.size = w2.heap.size + 2 := by rw [← hw3]; simp
  have kr : w3.cell? ⟨w2.heap.size, 0, none⟩ = some (.pointer (some ⟨br, 0, none⟩)) := by rw [← hw3]; simp [go_sem]
  have ke : w3.cell? ⟨w2.heap.size + 1, 0, none⟩ = some (.int .i64 0) := by rw [← hw3]; simp [go_sem]
  have l4 : W.heap.size < w3.heap.size := by have := S2.out; omega
  have l5 : W.heap.size + 1 < w3.heap.size := by have := S2.out; omega
  have k4 := (hB3.cell (p := ⟨W.heap.size, 0, none⟩) (by have := S2.out; simp only []; omega)).trans j4
  have k5 := (hB3.cell (p := ⟨W.heap.size + 1, 0, none⟩) (by have := S2.out; simp only []; omega)).trans j5
  have z4 := (hB3.frozen (p := ⟨W.heap.size, 0, none⟩) (by have := S2.out; simp only []; omega)).trans y4
  have z5 := (hB3.frozen (p := ⟨W.heap.size + 1, 0, none⟩) (by have := S2.out; simp only []; omega)).trans y5
  have HR3 := hid (HR2.out.below hB3)
  have HB3 := hid (HB2.out.trans (hB3.mono HB2.out.size))
  rw [hw3]
  have S3 := hid s3
  obtain ⟨xr, hxr⟩ : ∃ x, w2.heap.size = x := ⟨_, rfl⟩
  have Hxr := hid hxr
  rw [hxr] at kr ke ⊢
  have hfin : Hid (∀ X Y w5, X = max f 0 → Y = min u 12622780799 → w5 = ((w3.setCell ⟨W.heap.size, 0, none⟩ (.int .i64 X)).setCell ⟨W.heap.size + 1, 0, none⟩ (.int .i64 Y)).drew → Below W.heap.size W w5 ∧
      HSk l br bk bps (xr + 1) W.heap.size (W.heap.size + 1) xr (max f 0) (min u 12622780799) (InvS 0) (FSk W w5) w5 ∧ ∀ b, RM br bk bps b → W.heap.size ≤ b) := by
    rintro X Y w5 rfl rfl rfl
    obtain ⟨X, hX⟩ : ∃ X, max f 0 = X := ⟨_, rfl⟩
    obtain ⟨Y, hY⟩ : ∃ Y, min u 12622780799 = Y := ⟨_, rfl⟩
    rw [hX, hY]
    have s3' := S3.out
    have s1' := S1.out
    have s2' := S2.out
    have xr' := Hxr.out
    have hB5 : Below W.heap.size W ((w3.setCell ⟨W.heap.size, 0, none⟩ (.int .i64 X)).setCell ⟨W.heap.size + 1, 0, none⟩ (.int .i64 Y)).drew := (below_set (below_set HB3.out (by omega)) (by omega)).drew
    have sz : ((w3.setCell ⟨W.heap.size, 0, none⟩ (.int .i64 X)).setCell ⟨W.heap.size + 1, 0, none⟩ (.int .i64 Y)).drew.heap.size = w3.heap.size := by simp [World.drew]
    have hF : ∀ b, FNew W1 w2 b → W1.heap.size ≤ b ∨ b = 0 := fun b hb => hb.elim (fun h => .inl h.1) .inr
    have htl : 0 < W.heap.size := HTt.out.1
    have ko : ∀ b, FNew W1 w2 b → ((w3.setCell ⟨W.heap.size, 0, none⟩ (.int .i64 X)).setCell ⟨W.heap.size + 1, 0, none⟩ (.int .i64 Y)).drew.heap[b]? = w3.heap[b]? := fun b hb => by
      have h1 := hF b hb
      have n1 : W.heap.size ≠ b := by rcases h1 with h | h <;> omega
      have n2 : W.heap.size + 1 ≠ b := by rcases h1 with h | h <;> omega
      show ((w3.setCell ⟨W.heap.size, 0, none⟩ (.int .i64 X)).setCell ⟨W.heap.size + 1, 0, none⟩ (.int .i64 Y)).heap[b]? = w3.heap[b]?
      rw [Below.heap_setCell _ _ _ _ (by exact Ne.symm n2), Below.heap_setCell _ _ _ _ (by exact Ne.symm n1)]
    have hR5 := (HR3.out.keep (by rw [sz]; exact Nat.le_refl _) ko).wide (F' := FSk W ((w3.setCell ⟨W.heap.size, 0, none⟩ (.int .i64 X)).setCell ⟨W.heap.size + 1, 0, none⟩ (.int .i64 Y)).drew)
      (fun b hb => hb.elim (fun h => .inl ⟨by omega, by rw [sz]; omega⟩) .inr) (fun b hb => by
        rw [sz]
        rcases hb with h | h
        · rw [sz] at h; omega
        · omega)
    have nm : ∀ b, RM br bk bps b → W.heap.size + 2 ≤ b ∧ b < xr := fun b hb => ⟨by have := HM.out b hb; omega, by have := HR2.out.x.lt b (HR2.out.x.sub b hb); omega⟩
    refine ⟨hB5, ⟨⟨_, _, hR5, Nat.le_refl 0⟩, ⟨⟨.inl ⟨by omega, by rw [sz]; omega⟩, fun h => by have := nm _ h; omega⟩, ⟨.inl ⟨by omega, by rw [sz]; omega⟩, fun h => by have := nm _ h; omega⟩, ?_, ?_⟩,
      ⟨.inl ⟨by omega, by rw [sz]; omega⟩, fun h => by have := nm _ h; omega⟩, ⟨.inl ⟨by omega, by rw [sz]; omega⟩, fun h => by have := nm _ h; omega⟩, ?_, ?_⟩, fun b hb => by have := nm b hb; omega⟩
    · show ((w3.setCell ⟨W.heap.size, 0, none⟩ (.int .i64 X)).setCell ⟨W.heap.size + 1, 0, none⟩ (.int .i64 Y)).cell? ⟨W.heap.size, 0, none⟩ = _
      simp [go_sem, k4]
    · show ((w3.setCell ⟨W.heap.size, 0, none⟩ (.int .i64 X)).setCell ⟨W.heap.size + 1, 0, none⟩ (.int .i64 Y)).cell? ⟨W.heap.size + 1, 0, none⟩ = _
      simp [go_sem, k5]
    · show ((w3.setCell ⟨W.heap.size, 0, none⟩ (.int .i64 X)).setCell ⟨W.heap.size + 1, 0, none⟩ (.int .i64 Y)).cell? ⟨xr + 1, 0, none⟩ = _
      rw [World.cell?_setCell_other, World.cell?_setCell_other, ke]
      all_goals (simp only [ne_eq, Addr.mk.injEq, not_and]; intro h; omega)
    · show ((w3.setCell ⟨W.heap.size, 0, none⟩ (.int .i64 X)).setCell ⟨W.heap.size + 1, 0, none⟩ (.int .i64 Y)).cell? ⟨xr, 0, none⟩ = _
      rw [World.cell?_setCell_other, World.cell?_setCell_other, kr]
      all_goals (simp only [ne_eq, Addr.mk.injEq, not_and]; intro h; omega)
  clear hw3 hB3 s3 j4 j5 y4 y5 hxr
  go_region
  all_goals (go_upto_region 3 with fail)
  all_goals go_wp2
  all_goals go_ret
  all_goals exact ⟨_, _, _, _, _, _, _, rfl, hfin.out _ _ _ (by omega) (by omega) rfl⟩
set_option maxRecDepth 100000 in
set_option maxHeartbeats 1600000 in
theorem SkAllN_any {cs : List Cl} {br bk : Nat} {bps : List Nat} (xe xf xu xr : Nat) (f u : Int) (fu : u < f) :
    TellsH Tryz.prog 47 #[.pointer (some ⟨xe, 0, none⟩), .pointer (some ⟨xf, 0, none⟩), .pointer (some ⟨xu, 0, none⟩), .pointer (some ⟨xr, 0, none⟩)] 0 (VInt (instA cs f u))
      (HSk cs br bk bps xe xf xu xr f u (InvS 0)) (HSk cs br bk bps xe xf xu xr f u (fun _ _ => True)) (HSk cs br bk bps xe xf xu xr f u (fun _ _ => True)) (RM br bk bps) := by
  intro y J Jx O F W hH hFO hC hJ
  obtain ⟨yf, yi, yc, rfl⟩ := hC.form
  show Calls Tryz.prog 47 #[.func yf yi yc, .pointer (some ⟨xe, 0, none⟩), .pointer (some ⟨xf, 0, none⟩), .pointer (some ⟨xu, 0, none⟩), .pointer (some ⟨xr, 0, none⟩)] W _
  obtain ⟨W1, hW1⟩ : ∃ W1, W.alloc (.cells #[.func yf yi yc] 54) = W1 := ⟨_, rfl⟩
  have q4 : Below W.heap.size W W1 := by rw [← hW1]; exact below_new (Below.refl _ _) (Nat.le_refl _)
  have hFlt := hH.lt
  have hOlt := hC.lt 0 O F W hJ
  have hH1 := hH.keep q4.size (fun b hb => q4.block b (hFlt b hb))
  have hfin : Hid (ToldH 0 (HSk cs br bk bps xe xf xu xr f u (fun _ _ => True)) (HSk cs br bk bps xe xf xu xr f u (fun _ _ => True)) (RM br bk bps) J Jx O F W W1) := by
    obtain ⟨ws, m, hR, -⟩ := hH1.roll
    exact ⟨O, F, ⟨fun _ h => h, fun _ h => .inl h, Eff.of_below q4⟩, fun _ h => h, fun _ h => .inl h, hFO, .inl ⟨hH1.step hR trivial (fun _ h => h) (fun _ _ _ => rfl), hC.stab 0 O F F W W1 hJ q4.size (fun _ h => h) (fun b hb => q4.block b (hb.elim (hOlt b) (fun h => hFlt b h.1)))⟩⟩
  have k1 := hH1.ce
  have k2 := hH1.bx.cf
  have k3 := hH1.bx.cu
  have HW1 := hid hW1
  have e1 : decide (u < f) = true := decide_eq_true fu
  clear hH hFO hC hJ hW1 q4 hFlt hOlt hH1 fu
  refine (wf_calls (r := none) (n := 1)).mp ?_
  refine callsIn_of_wp_marks Tryz.func47 rfl trivial ?_ rfl
  simp only [Tryz.ntmps47, List.size_toArray, List.length_cons, List.length_nil, Nat.reduceAdd, Nat.reduceSub, Array.replicate_succ, Array.replicate_zero, List.push_toArray, List.append_toArray, List.nil_append, List.cons_append]
  gi_wp2_with fail
  refine wpIn_scope ?_
  rw [HW1.out]
  gi_wp2
  try rw [Exit.noGoto_normal]
  exact ⟨_, results_none rfl _ _ _, ⟨_, rfl⟩, hfin.out⟩
theorem SkTells_any {cs : List Cl} {br bk : Nat} {bps : List Nat} (xe xf xu xr : Nat) (f u : Int) (f0 : 0 ≤ f) (u1 : u < 12622780800) :
    TellsH Tryz.prog 47 #[.pointer (some ⟨xe, 0, none⟩), .pointer (some ⟨xf, 0, none⟩), .pointer (some ⟨xu, 0, none⟩), .pointer (some ⟨xr, 0, none⟩)] (instA cs f u).length (VInt (instA cs f u))
      (HSk cs br bk bps xe xf xu xr f u (InvS 0)) (HSk cs br bk bps xe xf xu xr f u (fun _ _ => True)) (HSk cs br bk bps xe xf xu xr f u (fun _ _ => True)) (RM br bk bps) := by
  rcases Int.lt_or_le u f with h | h
  · rw [show (instA cs f u).length = 0 by rw [instA_nil h]; rfl]
    exact SkAllN_any xe xf xu xr f u h
  · exact SkAllF_any xe xf xu xr f u f0 h u1
end Go.Proofs.YtcbanlgnanihhaaGreatDoor
namespace Go.Proofs.YtcbanlgnanihhaaGreatDoor
open Go.RowKit Go.Maps
set_option linter.unusedVariables false
attribute [local go_sem] Oper.semAt_some

def headP : List Int → Int × Int
  | [] => (0, 15)
  | x :: _ => (x, 0)
def nextP (l : List Cl) (t : Int) : Int × Int := if faultL l ≠ 0 then (0, faultL l) else headP (instA l (heldI t + 1) 12622780799)
structure TwoC (b : Nat) (x y : Int) (O : Blk) (W : World) : Prop where
  c4 : W.cell? ⟨b, 0, none⟩ = some (.int .i64 x)
  c5 : W.cell? ⟨b + 1, 0, none⟩ = some (.int .i64 y)
  f4 : W.frozen? ⟨b, 0, none⟩ = false
  f5 : W.frozen? ⟨b + 1, 0, none⟩ = false
  o4 : O b
  o5 : O (b + 1)
  lt : ∀ c, O c → c < W.heap.size
theorem TwoC.keep {b : Nat} {x y : Int} {O : Blk} {W W' : World} (h : TwoC b x y O W) (hs : W.heap.size ≤ W'.heap.size) (hb : ∀ c, O c → W'.heap[c]? = W.heap[c]?) : TwoC b x y O W' :=
  ⟨(World.cell?_of_block (w := W) (a := ⟨b, 0, none⟩) (hb _ h.o4)).trans h.c4, (World.cell?_of_block (w := W) (a := ⟨b + 1, 0, none⟩) (hb _ h.o5)).trans h.c5,
   (World.frozen?_of_block (w := W) (a := ⟨b, 0, none⟩) (hb _ h.o4)).trans h.f4, (World.frozen?_of_block (w := W) (a := ⟨b + 1, 0, none⟩) (hb _ h.o5)).trans h.f5, h.o4, h.o5, fun c hc => Nat.lt_of_lt_of_le (h.lt c hc) hs⟩
theorem TwoC.set {b : Nat} {x y x' y' : Int} {O : Blk} {W : World} (h : TwoC b x y O W) : TwoC b x' y' O ((W.setCell ⟨b, 0, none⟩ (.int .i64 x')).setCell ⟨b + 1, 0, none⟩ (.int .i64 y')) := by
  obtain ⟨h1, h2, h3, h4, h5, h6, h7⟩ := h
  refine ⟨?_, ?_, ?_, ?_, h5, h6, fun c hc => by simpa using h7 c hc⟩ <;> simp [go_sem, h1, h2, h3, h4]
def NxI19 (b : Nat) : OwnF := fun k O _ W => k = 0 ∧ TwoC b 0 0 O W
def NxX19 (b : Nat) (xs : List Int) (c : Code) : OwnF := fun k O _ W => c = .ret ∧ ∃ x, xs[0]? = some x ∧ TwoC b x 0 O W
theorem nxI19_stab (b : Nat) (M : Blk) : StabF M (NxI19 b) := fun k O F F' W W' h hs hF hO => ⟨h.1, h.2.keep hs (fun c hc => hO c (.inl hc))⟩
theorem nxX19_stab (b : Nat) (xs : List Int) (M : Blk) (c : Code) : StabF M (NxX19 b xs c) := fun k O F F' W W' ⟨h1, x, h2, h3⟩ hs hF hO => ⟨h1, x, h2, h3.keep hs (fun c hc => hO c (.inl hc))⟩
theorem nxI19_lt (b : Nat) : LtF (NxI19 b) := fun k O F W h => h.2.lt
theorem nxX19_lt (b : Nat) (xs : List Int) (c : Code) : LtF (NxX19 b xs c) := fun k O F W ⟨_, _, _, h⟩ => h.lt
theorem seekall_enters (args : Array Value) (w : World) : (callFunc 47 args).run Tryz.prog w = .ok (.enter 47 args) w := by simp [go_sem]
theorem held_ge (t : Int) : -1 ≤ heldI t := by rw [heldI]; omega
theorem held_le (t : Int) : heldI t ≤ 12622780800 := by rw [heldI]; omega
set_option maxRecDepth 100000 in
set_option maxHeartbeats 3200000 in
theorem SkNext_any (a : Option Addr) (cap : Nat) (l : List Cl) (t : Int) (w : World) (hl : l.length ≤ 9223372036854775807) (hlc : l.length ≤ cap) (hs : Sl w a (cls l)) (hno : a = none → cap = 0) (hok : ∀ c ∈ l, c.Ok) (hT : Tab w) :
    Calls Tryz.prog 21 #[.slice a l.length cap, .int .i64 t] w fun e w' => e = .returned (.tuple #[.int .i64 (nextP l t).1, .int .i64 (nextP l t).2]) ∧ Below w.heap.size w w' := by
  obtain ⟨W1, hW1⟩ : ∃ W1, (w.alloc (.cells #[.int .i64 0] 2)).alloc (.cells #[.int .i64 0] 34) = W1 := ⟨_, rfl⟩
  have hB1 : Below w.heap.size w W1 := by rw [← hW1]; exact below_new (below_new (Below.refl _ _) (Nat.le_refl _)) (by simp)
  have s1 : W1.heap.size = w.heap.size + 2 := by rw [← hW1]; simp
  have hC1 : TwoC w.heap.size 0 0 (fun b => b = w.heap.size ∨ b = w.heap.size + 1) W1 := by
    refine ⟨?_, ?_, ?_, ?_, .inl rfl, .inr rfl, fun c hc => by omega⟩ <;> (rw [← hW1]; simp [go_sem])
  have cO := hid (IOf_any a cap l W1 hl hlc (hs.below hB1) hno hok)
  have cH := hid (fun W => SkHeld_any t W)
  have cA := hid (fun W (hB : Below W1.heap.size W1 W) f u h => SkAllC_any a cap l f u W hl hlc ((hs.below hB1).below hB) hno hok ((hT.later hB1).later hB) h)
  have g0 := held_ge t
  have g1 := held_le t
  obtain ⟨h0, hh0⟩ : ∃ x, heldI t = x := ⟨_, rfl⟩
  have hP : Hid (nextP l t = if faultL l ≠ 0 then (0, faultL l) else headP (instA l (h0 + 1) 12622780799)) := by show _ = _; rw [nextP, hh0]
  rw [hh0] at cH g0 g1
  obtain ⟨pr, hpr⟩ : ∃ x, nextP l t = x := ⟨_, rfl⟩
  rw [hpr] at hP ⊢
  have HB1 := hid hB1
  have HW1 := hid hW1
  have S1 := hid s1
  have C1 := hid hC1
  have Ht0 : Hid (0 < w.heap.size) := hT.1
  clear hW1 hB1 hs hok hT s1 hno hlc hh0 hpr hC1
  refine (wf_calls (r := none) (n := 1)).mp ?_
  refine callsIn_of_wp_marks Tryz.func21 rfl trivial ?_ rfl
  simp only [Tryz.ntmps21, List.size_toArray, List.length_cons, List.length_nil, Nat.reduceAdd, Nat.reduceSub, Array.replicate_succ, Array.replicate_zero, List.push_toArray, List.append_toArray, List.nil_append, List.cons_append]
  gi_wp2_with fail
  rw [HW1.out]
  refine (wf_calls.mpr cO.out).mono ?_
  rintro e w2 ⟨⟨v, rfl, -⟩, hB2⟩
  have HB2 := hid hB2
  have hB02 := hid (HB1.out.trans (hB2.mono HB1.out.size))
  have C2 : Hid (TwoC w.heap.size 0 0 (fun b => b = w.heap.size ∨ b = w.heap.size + 1) w2) := C1.out.keep hB2.size (fun c hc => hB2.block c (C1.out.lt c hc))
  by_cases hf : faultL l = 0
  · have Hf := hid hf
    have cA2 := hid (cA.out w2 hB2 (h0 + 1) 12622780799 hf)
    rw [hf]
    clear hB2 hf cA
    gi_wp2_with fail
    refine (wf_calls.mpr (cH.out w2)).mono ?_
    rintro e wx ⟨rfl, hwx⟩
    rw [hwx]
    clear cH hwx
    gi_wp2_with fail
    refine (wf_calls.mpr cA2.out).mono ?_
    rintro e w3 ⟨br, bk, bps, xe, xf, xu, xr, rfl, hB3, hS3, hM3⟩
    have e1 : max (h0 + 1) 0 = h0 + 1 := by omega
    have e2 : min 12622780799 12622780799 = (12622780799 : Int) := by omega
    rw [e1, e2] at hS3
    have tl := hid (SkTells_any (cs := l) (br := br) (bk := bk) (bps := bps) xe xf xu xr (h0 + 1) 12622780799 (by omega) (by omega))
    obtain ⟨L, hL⟩ : ∃ L, instA l (h0 + 1) 12622780799 = L := ⟨_, rfl⟩
    rw [hL] at tl hP
    have hP2 : Hid (pr = headP L) := by show _ = _; rw [hP.out, if_neg (by rw [Hf.out]; simp)]
    have S12 : Hid (w.heap.size + 2 ≤ w2.heap.size) := by have := HB2.out.size; have := S1.out; show _ ≤ _; omega
    have HB3 := hid (hB02.out.trans (hB3.mono hB02.out.size))
    have C3 := hid (C2.out.keep hB3.size (fun c hc => hB3.block c (C2.out.lt c hc)))
    have HS3 := hid hS3
    have HM3 := hid hM3
    have HFO : Hid (∀ b, FSk w2 w3 b → ¬ (b = w.heap.size ∨ b = w.heap.size + 1)) := fun b hb h => by
      have := S12.out; have := Ht0.out
      rcases hb with hb | hb <;> omega
    clear hB3 hS3 hM3 hL cA2 hP e1 e2
    gi_wp2_with fail
    refine range_outerG (F := FSk w2 w3) (M := RM br bk bps) (gf := 47) (lb := #[.pointer (some ⟨xe, 0, none⟩), .pointer (some ⟨xf, 0, none⟩), .pointer (some ⟨xu, 0, none⟩), .pointer (some ⟨xr, 0, none⟩)]) rfl seekall_enters (fun b => b = w.heap.size ∨ b = w.heap.size + 1)
      (fun k vs F W h => by obtain ⟨_, _, rfl⟩ := h; rfl) tl.out HSk.host HSk.host HSk.host HS3.out HFO.out
      (NxI19 w.heap.size) (NxX19 w.heap.size L) (nxI19_stab _ _) (nxX19_stab _ _ _) (nxI19_lt _) (nxX19_lt _ _) ⟨rfl, C3.out⟩
      (fun k O F a' W => NxI19 w.heap.size k O F W ∧ ∃ x, L[0]? = some x ∧ ∃ (u0 u1 u2 u3 u6 u7 u9 u10 u11 u12 u13 u14 u15 u16 u17 u18 u19 u20 u21 u22 u23 : Value), a' = { tmps := #[u0, u1, u2, u3, .pointer (some ⟨w.heap.size, 0, none⟩), .pointer (some ⟨w.heap.size + 1, 0, none⟩), u6, u7, .int .i64 x, u9, u10, u11, u12, u13, u14, u15, u16, u17, u18, u19, u20, u21, u22, u23], defers := [] })
      ?putl ?assign ?body ?done ?stop
    case putl =>
      rintro l' o k O F a' W hr hnO hnF ⟨h1, h2⟩
      exact ⟨nxI19_stab _ (RM br bk bps) k O F F W _ h1 (by rw [World.putObj_size]; exact Nat.le_refl _) (fun _ h => h) (fun b hb => World.putObj_heap_other (fun e => hb.elim (fun h => hnO (e ▸ h)) (fun h => hnF (e ▸ h.1)))), h2⟩
    case assign =>
      rintro l' k O6 F6 W6 vs K hk ⟨rfl, hI⟩ hFl ⟨x, hx, rfl⟩ hG6 hK
      have HI := hid hI
      have Hx := hid hx
      clear hI hx hG6 hFl
      gi_wp2
      exact hK _ O6 W6 (Grow.refl _ _) ⟨⟨rfl, HI.out⟩, x, Hx.out, _, _, _, _, _, _, _, _, _, _, _, _, _, _, _, _, _, _, _, _, _, rfl⟩
    case body =>
      rintro l3 k O6 F6 a' W6 hk hG6 hl3 hrec6 hnl3 hnF3 ⟨⟨rfl, hI⟩, x, hx, u0, u1, u2, u3, u6, u7, u9, u10, u11, u12, u13, u14, u15, u16, u17, u18, u19, u20, u21, u22, u23, rfl⟩
      have HI := hid hI
      have Hx := hid hx
      obtain ⟨c4, c5, f4, f5, -, -, -⟩ := hI
      clear hx hG6 hk
      gi_wp2
      exact ⟨O6, ⟨fun _ h => h, fun _ h => .inl h, ((Eff.refl O6 W6).set HI.out.o4 _ _).set HI.out.o5 _ _⟩, rfl, x, Hx.out, HI.out.set⟩
    case stop =>
      rintro c k O9 F9 w9 hk1 hk2 hG9 hHN hFs hFn hFO9 ⟨rfl, x, hx, hX⟩ hD hnD hnF
      have hX' : TwoC w.heap.size x 0 O9 (w9.putObj w3.heap.size (.deferred none)) := hX.keep (by rw [World.putObj_size]; exact Nat.le_refl _) (fun b hb => World.putObj_heap_other (fun e => hnD (e ▸ hb)))
      have hBf : Hid (Below w.heap.size w (w9.putObj w3.heap.size (.deferred none))) := below_putObj (HB3.out.trans (hG9.eff.below (fun b hb => by
        rcases hb with (h | h) | h
        · omega
        · omega
        · have := HM3.out b h; have := S12.out; omega) HB3.out.size)) HB3.out.size _
      have HD := hid hD
      have HX := hid hX'
      have hpr : Hid (pr = (x, 0)) := by
        show _ = _
        rw [hP2.out]
        cases L with
        | nil => simp at hx
        | cons y m => simp at hx; rw [hx]; rfl
      clear hX hG9 hD hX' hHN hFs hFn hFO9 hnD hnF hx
      gi_wp2
      refine ⟨by simp, .inl ⟨_, _, rfl, run_takeDeferred HD.out, ?_⟩⟩
      obtain ⟨c4, c5, -, -, -, -, -⟩ := HX.out
      refine ⟨.tuple #[.int .i64 x, .int .i64 0], ?_, by rw [hpr.out], hBf.out⟩
      simp [results, Tryz.results21, go_sem, c4, c5]
    case done =>
      rintro O9 F9 w9 hG9 hHN hFs hFn hFO9 ⟨hk, hI⟩ hD hnD hnF
      have hpr : Hid (pr = (0, 15)) := by
        show _ = _
        rw [hP2.out, show L = [] from List.length_eq_zero_iff.mp hk]; rfl
      have hX' := hI.set (x' := 0) (y' := 15)
      have hB9 : Below w.heap.size w w9 := HB3.out.trans (hG9.eff.below (fun b hb => by
        rcases hb with (h | h) | h
        · omega
        · omega
        · have := HM3.out b h; have := S12.out; omega) HB3.out.size)
      have HB9 := hid hB9
      have HX := hid hX'
      have HDx : Hid (((w9.setCell ⟨w.heap.size, 0, none⟩ (.int .i64 0)).setCell ⟨w.heap.size + 1, 0, none⟩ (.int .i64 15)).heap[w3.heap.size]? = some (.deferred (some []))) := by
        show _ = _
        rw [Below.heap_setCell _ _ _ _ (fun e => hnD (by rw [e]; exact hI.o5)), Below.heap_setCell _ _ _ _ (fun e => hnD (by rw [e]; exact hI.o4))]
        exact hD
      have HND := hid hnD
      obtain ⟨c4, c5, f4, f5, -, -, -⟩ := hI
      clear hG9 hHN hFs hFn hFO9 hnD hnF hD hB9 hX' hk
      gi_wp2
      refine ⟨by simp, .inl ⟨_, _, rfl, run_takeDeferred HDx.out, ?_⟩⟩
      have hBf := below_putObj (below_set (below_set HB9.out (by omega)) (by omega) : Below w.heap.size w ((w9.setCell ⟨w.heap.size, 0, none⟩ (.int .i64 0)).setCell ⟨w.heap.size + 1, 0, none⟩ (.int .i64 15))) HB3.out.size (.deferred none)
      have hX2 := HX.out.keep (W' := ((w9.setCell ⟨w.heap.size, 0, none⟩ (.int .i64 0)).setCell ⟨w.heap.size + 1, 0, none⟩ (.int .i64 15)).putObj w3.heap.size (.deferred none)) (by rw [World.putObj_size]; exact Nat.le_refl _) (fun b hb => World.putObj_heap_other (fun e => HND.out (e ▸ hb)))
      refine ⟨.tuple #[.int .i64 0, .int .i64 15], ?_, by rw [hpr.out], hBf⟩
      obtain ⟨WF, hWF⟩ : ∃ W, ((w9.setCell ⟨w.heap.size, 0, none⟩ (.int .i64 0)).setCell ⟨w.heap.size + 1, 0, none⟩ (.int .i64 15)).putObj w3.heap.size (.deferred none) = W := ⟨_, rfl⟩
      rw [hWF] at hX2
      obtain ⟨c4, c5, -, -, -, -, -⟩ := hX2
      rw [hWF]
      simp [results, Tryz.results21, go_sem, c4, c5]
  · have hpr : Hid (pr = (0, faultL l)) := by show _ = _; rw [hP.out, if_pos hf]
    have hBf : Hid (Below w.heap.size w ((w2.setCell ⟨w.heap.size, 0, none⟩ (.int .i64 0)).setCell ⟨w.heap.size + 1, 0, none⟩ (.int .i64 (faultL l)))) := below_set (below_set hB02.out (by omega)) (by omega)
    obtain ⟨X, hX⟩ : ∃ X, faultL l = X := ⟨_, rfl⟩
    rw [hX] at hf hpr hBf ⊢
    have HX := hid (C2.out.set (x' := 0) (y' := X))
    obtain ⟨c4, c5, f4, f5, -, -, -⟩ := C2.out
    have hX0 : (X == 0) = false := by simpa using hf
    have hX1 : (X != 0) = true := by simpa using hf
    clear hB2 cA hX hP
    gi_wp2
    obtain ⟨d4, d5, -, -, -, -, -⟩ := HX.out
    refine ⟨_, ?_, by rw [hpr.out], hBf.out⟩
    simp [results, Tryz.results21, go_sem, d4, d5]
end Go.Proofs.YtcbanlgnanihhaaGreatDoor
namespace Go.Proofs.YtcbanlgnanihhaaGreatDoor
open Go.RowKit Go.Maps
set_option linter.unusedVariables false
attribute [local go_sem] Oper.semAt_some

structure PvC (b : Nat) (T x y : Int) (O : Blk) (W : World) : Prop where
  two : TwoC (b + 1) x y O W
  c3 : W.cell? ⟨b, 0, none⟩ = some (.int .i64 T)
  o3 : O b
theorem PvC.keep {b : Nat} {T x y : Int} {O : Blk} {W W' : World} (h : PvC b T x y O W) (hs : W.heap.size ≤ W'.heap.size) (hb : ∀ c, O c → W'.heap[c]? = W.heap[c]?) : PvC b T x y O W' :=
  ⟨h.two.keep hs hb, (World.cell?_of_block (w := W) (a := ⟨b, 0, none⟩) (hb _ h.o3)).trans h.c3, h.o3⟩
def PvT (h0 h1 h2 h3 h4 h5 h6 h7 h8 h9 : Value) (ds : List Deferred) (a : Act) : Prop := ∃ u : Nat → Value, a = { tmps := #[h0, h1, h2, h3, h4, h5, h6, h7, h8, h9, u 0, u 1, u 2, u 3, u 4, u 5, u 6, u 7, u 8, u 9, u 10, u 11, u 12, u 13, u 14, u 15, u 16, u 17, u 18, u 19, u 20, u 21, u 22, u 23, u 24, u 25, u 26, u 27, u 28, u 29, u 30, u 31, u 32, u 33, u 34, u 35, u 36, u 37, u 38], defers := ds }
theorem PvT.of {h0 h1 h2 h3 h4 h5 h6 h7 h8 h9 u10 u11 u12 u13 u14 u15 u16 u17 u18 u19 u20 u21 u22 u23 u24 u25 u26 u27 u28 u29 u30 u31 u32 u33 u34 u35 u36 u37 u38 u39 u40 u41 u42 u43 u44 u45 u46 u47 u48 : Value} {ds : List Deferred} : PvT h0 h1 h2 h3 h4 h5 h6 h7 h8 h9 ds { tmps := #[h0, h1, h2, h3, h4, h5, h6, h7, h8, h9, u10, u11, u12, u13, u14, u15, u16, u17, u18, u19, u20, u21, u22, u23, u24, u25, u26, u27, u28, u29, u30, u31, u32, u33, u34, u35, u36, u37, u38, u39, u40, u41, u42, u43, u44, u45, u46, u47, u48], defers := ds } :=
  ⟨fun i => (#[u10, u11, u12, u13, u14, u15, u16, u17, u18, u19, u20, u21, u22, u23, u24, u25, u26, u27, u28, u29, u30, u31, u32, u33, u34, u35, u36, u37, u38, u39, u40, u41, u42, u43, u44, u45, u46, u47, u48] : Array Value).getD i undef, rfl⟩
end Go.Proofs.YtcbanlgnanihhaaGreatDoor
namespace Go.Proofs.YtcbanlgnanihhaaGreatDoor
open Go.RowKit Go.Maps
set_option linter.unusedVariables false

theorem held_lt {t y : Int} (h0 : 0 ≤ y) (h1 : y < 12622780800) : heldI t + 1 ≤ y ↔ t < y := by rw [heldI]; omega
def NextI (cs : List Cl) (t x : Int) : Prop := instB cs x = true ∧ t < x ∧ ∀ y, t < y → y < x → instB cs y = false
theorem next_cases {l : List Cl} {t : Int} (h : faultL l = 0) : (∃ x, nextP l t = (x, 0) ∧ NextI l t x) ∨ (nextP l t = (0, 15) ∧ ∀ y, t < y → instB l y = false) := by
  rw [nextP, if_neg (by simp [h])]
  have hp := instA_up l (heldI t + 1) 12622780799
  have hm : ∀ y, y ∈ instA l (heldI t + 1) 12622780799 ↔ t < y ∧ instB l y = true := fun y => by
    rw [instA_mem]
    constructor
    · rintro ⟨h1, h2, h3⟩
      have := inst_win h3
      exact ⟨(held_lt this.1 this.2).1 h1, h3⟩
    · rintro ⟨h1, h3⟩
      have := inst_win h3
      exact ⟨(held_lt this.1 this.2).2 h1, by omega, h3⟩
  generalize instA l (heldI t + 1) 12622780799 = L at *
  cases L with
  | nil =>
    refine .inr ⟨rfl, fun y hy => ?_⟩
    cases e : instB l y
    · rfl
    · have := (hm y).2 ⟨hy, e⟩; cases this
  | cons x L =>
    have hx := (hm x).1 (by simp)
    refine .inl ⟨x, rfl, hx.2, hx.1, fun y h1 h2 => ?_⟩
    cases e : instB l y
    · rfl
    · rcases List.mem_cons.1 ((hm y).2 ⟨h1, e⟩) with h3 | h3
      · omega
      · have := (List.pairwise_cons.1 hp).1 y h3; omega
theorem nextP_is {l : List Cl} {t x : Int} (h : faultL l = 0) (hx : NextI l t x) : nextP l t = (x, 0) := by
  obtain ⟨h1, h2, h3⟩ := hx
  rcases next_cases (t := t) h with ⟨y, e, g1, g2, g3⟩ | ⟨e, g⟩
  · rw [e]
    by_cases h4 : x < y
    · have := g3 x h2 h4; rw [h1] at this; cases this
    · by_cases h5 : y < x
      · have := h3 y g2 h5; rw [g1] at this; cases this
      · rw [show x = y by omega]
  · have := g x h2; rw [h1] at this; cases this
theorem nextP_none {l : List Cl} {t : Int} (h : faultL l = 0) (hn : ∀ y, t < y → instB l y = false) : nextP l t = (0, 15) := by
  rcases next_cases (t := t) h with ⟨y, e, g1, g2, g3⟩ | ⟨e, g⟩
  · have := hn y g2; rw [g1] at this; cases this
  · exact e
end Go.Proofs.YtcbanlgnanihhaaGreatDoor
namespace Go.Proofs.YtcbanlgnanihhaaGreatDoor
open Go.RowKit
set_option linter.unusedVariables false

attribute [local go_sem ↓] loadAt_cl
set_option maxRecDepth 100000 in
set_option maxHeartbeats 3200000 in
theorem RMay17_any (a : Option Addr) (cap : Nat) (l : List Cl) (w : World) (hl : l.length ≤ 1000) (hs : Sl w a (cls l)) (hok : ∀ c ∈ l, c.Ok) :
    Calls Tryz.prog 10 #[.slice a l.length cap] w fun e w' => e = .returned (.bool (mayL l)) ∧ Below w.heap.size w w' := by
  have Hs := hid hs
  have Hok := hid hok
  clear hs hok
  go_enter Tryz.func10, Tryz.ntmps10
  go_wp2_with fail
  go_loopw [3] (fun i wr => ∃ k : Nat, i = .int .i64 k ∧ k ≤ l.length ∧ k ≤ 9 ∧ Hid ((l.take k).all mayC = true) ∧ Hid (Below w.heap.size w wr)) (fun i _ => l.length - (intOf i).toNat)
  case atStart => exact ⟨0, rfl, by omega, by omega, by show _ = _; rfl, Below.refl _ _⟩
  case round =>
    obtain ⟨k, rfl, hk, hk9, hall, HB⟩ := hrel
    by_cases hlt : k < l.length
    · by_cases h9 : k < 9
      · have hltI : (k : Int) < l.length := by omega
        have h9I : (k : Int) < 9 := by omega
        obtain ⟨b, off, rfl, hbk, hr⟩ := Hs.out.atCl hlt
        have hr' := range_below hr HB.out hbk
        have hcOk := hid (Hok.out _ (List.getElem_mem hlt))
        have ts := hid (take_snoc l k hlt)
        have hmem := hid (List.getElem_mem hlt)
        obtain ⟨c, hc⟩ : ∃ c, l[k] = c := ⟨_, rfl⟩
        rw [hc] at hr' hcOk ts hmem
        have le := ld_at hr'
        have cM := hid (fun W => RMayCl_any c W hcOk.out)
        cases hm : mayC c
        · rw [hm] at cM
          have hno : Hid (mayL l = false) := by
            show _ = _
            rw [mayL, show l.all mayC = false by rw [List.all_eq_false]; exact ⟨c, hmem.out, by rw [hm]; simp⟩, Bool.and_false]
          clear hr hr' hc hm
          go_wp2_with fail
          refine (cM.out _).mono ?_
          rintro e w1 ⟨rfl, hB1⟩
          have HB1 := hid (HB.out.trans (hB1.mono HB.out.size))
          clear hB1 le
          go_wp2
          go_ret
          rw [hno.out]
          exact ⟨rfl, HB1.out⟩
        · rw [hm] at cM
          have hyes : Hid ((l.take (k + 1)).all mayC = true) := by show _ = _; rw [ts.out, List.all_append, hall.out, List.all_cons, hm]; rfl
          clear hr hr' hc hm
          go_wp2_with fail
          refine (cM.out _).mono ?_
          rintro e w1 ⟨rfl, hB1⟩
          have HB1 := hid (HB.out.trans (hB1.mono HB.out.size))
          clear hB1 le
          go_wp2
          exact ⟨⟨k + 1, by go_num, by omega, by omega, hyes, HB1⟩, by simp [intOf]; omega⟩
      · have hltI : (k : Int) < l.length := by omega
        have h9I : ¬ (k : Int) < 9 := by omega
        have hno : Hid (mayL l = false) := by show _ = _; rw [mayL, decide_eq_false (by omega)]; rfl
        have h8J : decide ((l.length : Int) ≤ 8) = false := decide_eq_false (by omega)
        have h8I : ¬ (l.length : Int) ≤ 8 := by omega
        go_wp2
        go_ret
        rw [hno.out]
        exact ⟨rfl, HB.out⟩
    · have hltI : ¬ (k : Int) < l.length := by omega
      have hke : l.take k = l := List.take_of_length_le (by omega)
      rw [hke] at hall
      clear hke
      by_cases h8 : l.length ≤ 8
      · have hno : Hid (mayL l = true) := by show _ = _; rw [mayL, decide_eq_true h8, hall.out]; rfl
        have h8I : (l.length : Int) ≤ 8 := by omega
        clear hall
        go_wp2
        go_ret
        rw [hno.out]
        exact ⟨rfl, HB.out⟩
      · have hno : Hid (mayL l = false) := by show _ = _; rw [mayL, decide_eq_false h8]; rfl
        have h8I : ¬ (l.length : Int) ≤ 8 := by omega
        clear hall
        go_wp2
        go_ret
        rw [hno.out]
        exact ⟨rfl, HB.out⟩
end Go.Proofs.YtcbanlgnanihhaaGreatDoor
namespace Go.Proofs.YtcbanlgnanihhaaGreatDoor
open Go.RowKit
set_option linter.unusedVariables false

attribute [local go_sem ↓] loadAt_cl
abbrev HaS (w : World) (c : Cl) (W : World) : Prop :=
  (loadClS (.pointer (some ⟨w.heap.size, 0, none⟩))).run Tryz.prog W = .ok (clv c) W ∧
  (W.cell? ⟨w.heap.size, 25, none⟩ = some (.int .i64 c.unit) ∧ W.cell? ⟨w.heap.size, 26, none⟩ = some (.int .i64 c.step) ∧ W.cell? ⟨w.heap.size, 27, none⟩ = some (.int .i64 c.anchor) ∧ W.cell? ⟨w.heap.size, 28, none⟩ = some (.int .i64 c.fr) ∧ W.cell? ⟨w.heap.size, 29, none⟩ = some (.int .i64 c.un)) ∧
  ClB W w.heap.size c ∧ Below w.heap.size w W ∧ w.heap.size < W.heap.size
theorem HaS.of {w W : World} {c : Cl} (h : ClB W w.heap.size c) (hb : Below w.heap.size w W) (hs : w.heap.size < W.heap.size) : HaS w c W := ⟨h.ld, h.tail, h, hb, hs⟩
theorem HaS.keep {w W W' : World} {c : Cl} (h : HaS w c W) (hb : Below W.heap.size W W') : HaS w c W' :=
  HaS.of (h.2.2.1.below hb h.2.2.2.2) (h.2.2.2.1.trans (hb.mono (Nat.le_of_lt h.2.2.2.2))) (Nat.lt_of_lt_of_le h.2.2.2.2 hb.size)
end Go.Proofs.YtcbanlgnanihhaaGreatDoor
namespace Go.Proofs.YtcbanlgnanihhaaGreatDoor
open Go.RowKit Go.Maps
set_option linter.unusedVariables false

theorem inst_full {t : Int} (h0 : 0 ≤ t) (h1 : t < 12622780800) : instB [fullCl] t = true := by
  rw [instB, List.any_cons, full_has (show winB t = true by simp only [winB, decide_eq_true_eq]; omega)]; rfl
theorem inst_out {l : List Cl} {t : Int} (h : t < 0 ∨ 12622780800 ≤ t) : instB l t = false := by
  cases e : instB l t
  · rfl
  · have := inst_win e; omega
theorem next_full5 : nextP [fullCl] 5 = (6, 0) := nextP_is fault_full ⟨inst_full (by omega) (by omega), by omega, fun y h1 h2 => by omega⟩
theorem next_full0 : nextP [fullCl] (-9) = (0, 0) := nextP_is fault_full ⟨inst_full (by omega) (by omega), by omega, fun y h1 h2 => inst_out (by omega)⟩
theorem next_fullE : nextP [fullCl] 12622780799 = (0, 15) := nextP_none fault_full fun y h => inst_out (by omega)
set_option maxRecDepth 100000 in
set_option maxHeartbeats 1600000 in
theorem Lives19_any (w : World) (hT : Tab w) : Calls Tryz.prog 18 #[] w fun e w' => e = .returned (.bool true) ∧ Below w.heap.size w w' := by
  have HT := hid hT
  have cW := hid (fun W => IWhole_any W)
  have cN := hid (fun (t : Int) (g : Nat) (w0 W : World) (hB : Below w.heap.size w W) (ho : OwnR w0 W [fullCl] (.slice (some ⟨g, 0, none⟩) 1 1)) => SkNext_any (some ⟨g, 0, none⟩) 1 [fullCl] t W (by simp) (by simp) (owns_sl ho) (by simp) full_okL (HT.out.later hB))
  have c5 := cN.out 5
  have c9 := cN.out (-9)
  have cE := cN.out 12622780799
  rw [next_full5] at c5
  rw [next_full0] at c9
  rw [next_fullE] at cE
  have C5 := hid c5
  have C9 := hid c9
  have CE := hid cE
  clear hT c5 c9 cE cN
  go_enter Tryz.func18, Tryz.ntmps18
  go_wp2_with fail
  refine (cW.out w).mono ?_
  rintro e w1 ⟨⟨g, rfl, ho⟩, hB1⟩
  have HB1 := hid hB1
  have k1 := hid (C5.out g w w1 hB1 ho)
  clear ho hB1
  go_wp2_with fail
  refine k1.out.mono ?_
  rintro e w2 ⟨rfl, hB2⟩
  have HB2 := hid (HB1.out.trans (hB2.mono HB1.out.size))
  clear hB2 k1
  go_wp2_with fail
  refine (cW.out w2).mono ?_
  rintro e w3 ⟨⟨g3, rfl, ho⟩, hB3⟩
  have HB3 := hid (HB2.out.trans (hB3.mono HB2.out.size))
  have k3 := hid (C9.out g3 w2 w3 HB3.out ho)
  clear ho hB3
  go_wp2_with fail
  refine k3.out.mono ?_
  rintro e w4 ⟨rfl, hB4⟩
  have HB4 := hid (HB3.out.trans (hB4.mono HB3.out.size))
  clear hB4 k3
  go_wp2_with fail
  refine (cW.out w4).mono ?_
  rintro e w5 ⟨⟨g5, rfl, ho⟩, hB5⟩
  have HB5 := hid (HB4.out.trans (hB5.mono HB4.out.size))
  have k5 := hid (CE.out g5 w4 w5 HB5.out ho)
  clear ho hB5
  go_wp2_with fail
  refine k5.out.mono ?_
  rintro e w6 ⟨rfl, hB6⟩
  have HB6 := hid (HB5.out.trans (hB6.mono HB5.out.size))
  clear hB6 k5
  go_wp2
  go_ret
  exact ⟨rfl, HB6.out⟩
end Go.Proofs.YtcbanlgnanihhaaGreatDoor
namespace Go.Proofs.YtcbanlgnanihhaaGreatDoor
open Go.RowKit
set_option linter.unusedVariables false

theorem appNIn {r : Option Nat} {nn : Nat} {P : Program} {t e : TypeId} {z : Value} {size bytes : Nat} (E : El P t e z size bytes) {W : World} {ops : Array Oper} {rest : List Oper} {o : Oper} {a : Act} {Q : Exit → Act → World → Prop} (s x : Operand)
    (hgd : o.guard = none) (ho : o.op = .call { callee := .builtin .append, args := #[s, x], argTypes := #[t, t] })
    {base : Nat} {v : Value} {n : Nat} {xs : List Value} {ax : Option Addr} {m c : Nat} {news : List Value} (hs : a.eval s = v) (hx : a.eval x = .slice ax m c) (hown : W.ownsRow base e size v n xs)
    (hl : news.length = m * size) (hsrc : Sl W ax news) (hnone : ax = none → c = 0) (h1 : ∀ u ∈ news, u.oneCell' = true)
    (hn : n + m ≤ 1000000000000) (hby : (n + m) * bytes ≤ 140737488355328) (hbase : base ≤ W.heap.size)
    (K : ∀ a' cap' w', w'.ownsRow base e size (.slice a' (n + m) cap') (n + m) (xs ++ news) → W.grownBy w' v.ownBlock → Below base W w' →
      (∀ k, Value.ownBlock (.slice a' (n + m) cap') = some k → v.ownBlock = some k ∨ W.heap.size ≤ k) → wpListIn (WF r) nn P ops Q rest (a.put o.dst (.slice a' (n + m) cap')) w') :
    wpListIn (WF r) nn P ops Q (o :: rest) a W := by
  refine wpListIn_plain hgd fun K' hK' => ?_
  obtain ⟨a', cap', w', hr, ho', hg, hb, hf⟩ := run_app E W o.type hown hl hsrc hnone h1 hn hby hbase
  unfold Oper.wpIn
  refine ⟨fun _ _ => trivial, ?_⟩
  rw [Oper.semAt_plain (WF r) _ _ (by rw [ho]; intro c hc; cases hc)]
  unfold execOp
  simp only [ho, resolve, invoke, builtin, Sem.run_bind, Sem.run_pure, Result.andThen_ok, List.map_toArray, List.map_cons, List.map_nil, hs, hx, hr]
  exact hK' _ _ (K a' cap' w' ho' hg hb hf)

theorem app1In {r : Option Nat} {nn : Nat} {P : Program} {t e : TypeId} {z : Value} {bytes : Nat} (E : El P t e z 1 bytes) {W : World} {ops : Array Oper} {rest : List Oper} {o : Oper} {a : Act} {Q : Exit → Act → World → Prop} (s x : Operand)
    (hgd : o.guard = none) (ho : o.op = .call { callee := .builtin .append, args := #[s, x], argTypes := #[t, t] })
    {base : Nat} {v : Value} {n : Nat} {xs : List Value} {u : Value} (hs : a.eval s = v) {g : Nat} (hx : a.eval x = .slice (some ⟨g, 0, none⟩) 1 1) (hg : g = W.heap.size) (hown : W.ownsRow base e 1 v n xs) (hu : u.oneCell' = true)
    (hn : n + 1 ≤ 1000000000000) (hby : (n + 1) * bytes ≤ 140737488355328) (hbase : base ≤ W.heap.size)
    (K : ∀ a' cap' w', w'.ownsRow base e 1 (.slice a' (n + 1) cap') (n + 1) (xs ++ [u]) → W.grownBy w' v.ownBlock → Below base W w' →
      (∀ k, Value.ownBlock (.slice a' (n + 1) cap') = some k → v.ownBlock = some k ∨ W.heap.size ≤ k) → wpListIn (WF r) nn P ops Q rest (a.put o.dst (.slice a' (n + 1) cap')) w') :
    wpListIn (WF r) nn P ops Q (o :: rest) a (W.alloc (.cells #[u] e)) := by
  subst hg
  refine appNIn E s x hgd ho hs hx (hown.alloc _) (news := [u]) rfl ?_ (fun h => by cases h) ?_ hn hby (by simp; omega) ?_
  · refine .inr ⟨W.heap.size, 0, rfl, by simp, fun j hj => ?_⟩
    have : j = 0 := by simp at hj; omega
    subst this
    simp
  · intro y hy; simp at hy; subst hy; exact hu
  · intro a' cap' w' h1 h2 h3 h4
    refine K a' cap' w' h1 (grown_trans (World.grownBy_alloc W _ _) h2) (((Below.refl base W).alloc hbase _).trans h3) (fun k hk => ?_)
    rcases h4 k hk with h | h
    · exact .inl h
    · refine .inr (Nat.le_trans ?_ h); simp
end Go.Proofs.YtcbanlgnanihhaaGreatDoor

/-
  tally.Hours: how many instants of a set have each hour.
-/
import Derived.Test.YtchceegpbfecaaaGreatDoorQ264235
import Derived.Test.YtchceegpbfecaaaGreatDoorQ74d1c6
import Derived.Test.YtchceegpbfecaaaGreatDoorQ8265e5
import Derived.Test.YtchceegpbfecaaaGreatDoorQ98891f
import Derived.BigRegion
namespace Go.Proofs.YtchceegpbfecaaaGreatDoor
open Go.RowKit Go.Maps
set_option linter.unusedVariables false
attribute [local go_sem] Oper.semAt_some
attribute [local go_sem ↓] loadAt_a24 storeAt_a24

theorem hours_xs : sel (spanM 0 23 1).testBit 64 = (List.range 24).map fun (i : Nat) => (i : Int) := by decide +kernel
theorem hours_lt : spanM 0 23 1 < 18446744073709551616 := by decide +kernel
structure HrS (bo bl bk : Nat) (f g : Nat → Nat) (c : Option Nat) (O : Blk) (W : World) : Prop where
  out : Arr24 bo f W
  last : Arr24 bl g W
  kn : W.cell? ⟨bk, 0, none⟩ = some (dptr c)
  zk : W.frozen? ⟨bk, 0, none⟩ = false
  o1 : O bo
  o2 : O bl
  o3 : O bk
  lt : ∀ b, O b → b < W.heap.size
  ne : bo ≠ bl ∧ bo ≠ bk ∧ bl ≠ bk
theorem HrS.keep {bo bl bk : Nat} {f g : Nat → Nat} {c : Option Nat} {O : Blk} {W W' : World} (h : HrS bo bl bk f g c O W) (hs : W.heap.size ≤ W'.heap.size) (hb : ∀ c, O c → W'.heap[c]? = W.heap[c]?) : HrS bo bl bk f g c O W' :=
  ⟨h.out.block hs (hb _ h.o1), h.last.block hs (hb _ h.o2), (World.cell?_of_block (w := W) (a := ⟨bk, 0, none⟩) (hb _ h.o3)).trans h.kn, (World.frozen?_of_block (w := W) (a := ⟨bk, 0, none⟩) (hb _ h.o3)).trans h.zk, h.o1, h.o2, h.o3, fun c hc => zH (h.lt c hc) hs, h.ne⟩
def HrK (c : Option Nat) (g : Nat → Nat) (M F : Blk) (W : World) : Prop := ∀ x, c = some x → F x ∧ ¬ M x ∧ ∃ q, DiscAt W x q ∧ g = hrC (secL q)
theorem HrK.keep {c : Option Nat} {g : Nat → Nat} {M F F' : Blk} {W W' : World} (h : HrK c g M F W) (hs : W.heap.size ≤ W'.heap.size) (hF : ∀ b, F b → F' b) (hb : ∀ b, F b ∧ ¬ M b → W'.heap[b]? = W.heap[b]?) : HrK c g M F' W' := fun x hx => by
  obtain ⟨h1, h2, q, h3, h4⟩ := h x hx
  exact ⟨hF x h1, h2, q, h3.block hs (hb x ⟨h1, h2⟩), h4⟩
def HrI (cs : List Cl) (M : Blk) (bo bl bk : Nat) : OwnF := fun k O F W => ∃ c g, HrS bo bl bk (hrT cs (dayS cs (daysL 0 146096)) k) g c O W ∧ HrK c g M F W
theorem Arr24.congr {b : Nat} {f g : Nat → Nat} {W : World} (h : Arr24 b f W) (e : ∀ i, i < 24 → g i = f i) : Arr24 b g W := ⟨fun i hi => by rw [h.c i hi, e i hi], h.z, h.lt⟩
def HrX : Code → OwnF := fun _ _ _ _ _ => False
theorem hrI_stab (cs : List Cl) (M : Blk) (bo bl bk : Nat) : StabF M (HrI cs M bo bl bk) := fun k O F F' W W' ⟨c, g, h1, h2⟩ hs hF hO => ⟨c, g, h1.keep hs (fun c hc => hO c (.inl hc)), h2.keep hs hF (fun b hb => hO b (.inr hb))⟩
theorem hrX_stab (M : Blk) (c : Code) : StabF M (HrX c) := fun k O F F' W W' h _ _ _ => h.elim
theorem hrI_lt (cs : List Cl) (M : Blk) (bo bl bk : Nat) : LtF (HrI cs M bo bl bk) := fun k O F W ⟨_, _, h, _⟩ => h.lt
theorem hrX_lt (c : Code) : LtF (HrX c) := fun k O F W h => h.elim
def HiI (bo : Nat) (f g : Nat → Nat) : OwnP := fun k O W => Arr24 bo (fun i => if i < k then f i + g i else f i) W ∧ O bo ∧ ∀ c, O c → c < W.heap.size
theorem hiI_stab (bo : Nat) (f g : Nat → Nat) : StabO (HiI bo f g) := fun k O W W' ⟨h1, h2, h3⟩ hs hO => ⟨h1.block hs (hO bo h2), h2, fun c hc => zH (h3 c hc) hs⟩
def HrB (h4 h5 h11 : Value) (ds : List Deferred) (a : Act) : Prop := ∃ V : Nat → Value, a = { tmps := #[V 0, V 1, V 2, V 3, h4, h5, V 6, V 7, V 8, V 9, V 10, h11, V 12, V 13, V 14, V 15, V 16, V 17, V 18, V 19, V 20, V 21, V 22, V 23, V 24, V 25, V 26, V 27, V 28, V 29, V 30, V 31, V 32, V 33, V 34, V 35, V 36, V 37, V 38, V 39, V 40, V 41, V 42, V 43], defers := ds }
theorem HrB.of {h4 h5 h11 u0 u1 u2 u3 u6 u7 u8 u9 u10 u12 u13 u14 u15 u16 u17 u18 u19 u20 u21 u22 u23 u24 u25 u26 u27 u28 u29 u30 u31 u32 u33 u34 u35 u36 u37 u38 u39 u40 u41 u42 u43 : Value} {ds : List Deferred} : HrB h4 h5 h11 ds { tmps := #[u0, u1, u2, u3, h4, h5, u6, u7, u8, u9, u10, h11, u12, u13, u14, u15, u16, u17, u18, u19, u20, u21, u22, u23, u24, u25, u26, u27, u28, u29, u30, u31, u32, u33, u34, u35, u36, u37, u38, u39, u40, u41, u42, u43], defers := ds } := ⟨fun i => (#[u0, u1, u2, u3, u6, u7, u8, u9, u10, u12, u13, u14, u15, u16, u17, u18, u19, u20, u21, u22, u23, u24, u25, u26, u27, u28, u29, u30, u31, u32, u33, u34, u35, u36, u37, u38, u39, u40, u41, u42, u43] : Array Value).getD (#[0, 1, 2, 3, 0, 0, 4, 5, 6, 7, 8, 0, 9, 10, 11, 12, 13, 14, 15, 16, 17, 18, 19, 20, 21, 22, 23, 24, 25, 26, 27, 28, 29, 30, 31, 32, 33, 34, 35, 36, 37, 38, 39, 40].getD i 0) undef, rfl⟩
structure HrD (cs : List Cl) (M : Blk) (n : Int) (d : Nat) (O F : Blk) (W : World) : Prop where
  dj : ∀ b, F b → ¬ O b
  di : DiF W F M d (dayQ cs n)
  tab : Tab W ∧ F 0
  lt : ∀ b, F b → b < W.heap.size
theorem HrD.put {cs : List Cl} {M : Blk} {n : Int} {d l : Nat} {O F : Blk} {W : World} {o : Obj} (h : HrD cs M n d O F W) (hr : ∃ r, W.heap[l]? = some (.loop r)) (hF : ¬ F l) : HrD cs M n d O F (W.putObj l o) := by
  have ps : (W.putObj l o).heap.size = W.heap.size := World.putObj_size
  have ko : ∀ b, F b → (W.putObj l o).heap[b]? = W.heap[b]? := fun b hb => World.putObj_heap_other (fun e => hF (e ▸ hb))
  exact ⟨h.dj, ⟨h.di.1, h.di.2.1, h.di.2.2.block (by rw [ps]; exact zG _) (ko _ h.di.1)⟩, ⟨⟨by rw [ps]; exact h.tab.1.1, fun i hi => (World.cell?_of_block (w := W) (a := ⟨0, i, none⟩) (ko _ h.tab.2)).trans (h.tab.1.2 i hi)⟩, h.tab.2⟩, fun b hb => by rw [ps]; exact h.lt b hb⟩
def HrA (h0 h1 h2 h3 h4 h5 h6 h7 h8 h10 : Value) (ds : List Deferred) (a : Act) : Prop := ∃ V : Nat → Value, a = { tmps := #[h0, h1, h2, h3, h4, h5, h6, h7, h8, V 9, h10, V 11, V 12, V 13, V 14, V 15, V 16, V 17, V 18, V 19, V 20, V 21, V 22, V 23, V 24, V 25, V 26, V 27, V 28, V 29, V 30, V 31, V 32, V 33, V 34, V 35, V 36, V 37, V 38, V 39, V 40, V 41, V 42, V 43], defers := ds }
theorem HrA.of {h0 h1 h2 h3 h4 h5 h6 h7 h8 h10 u9 u11 u12 u13 u14 u15 u16 u17 u18 u19 u20 u21 u22 u23 u24 u25 u26 u27 u28 u29 u30 u31 u32 u33 u34 u35 u36 u37 u38 u39 u40 u41 u42 u43 : Value} {ds : List Deferred} : HrA h0 h1 h2 h3 h4 h5 h6 h7 h8 h10 ds { tmps := #[h0, h1, h2, h3, h4, h5, h6, h7, h8, u9, h10, u11, u12, u13, u14, u15, u16, u17, u18, u19, u20, u21, u22, u23, u24, u25, u26, u27, u28, u29, u30, u31, u32, u33, u34, u35, u36, u37, u38, u39, u40, u41, u42, u43], defers := ds } := ⟨fun i => (#[u9, u11, u12, u13, u14, u15, u16, u17, u18, u19, u20, u21, u22, u23, u24, u25, u26, u27, u28, u29, u30, u31, u32, u33, u34, u35, u36, u37, u38, u39, u40, u41, u42, u43] : Array Value).getD (#[0, 0, 0, 0, 0, 0, 0, 0, 0, 0, 0, 1, 2, 3, 4, 5, 6, 7, 8, 9, 10, 11, 12, 13, 14, 15, 16, 17, 18, 19, 20, 21, 22, 23, 24, 25, 26, 27, 28, 29, 30, 31, 32, 33].getD i 0) undef, rfl⟩

def HoursP (l : List Cl) : (Nat → Nat) × Int := if faultL l ≠ 0 then (fun _ => 0, faultL l) else (hrT l (dayS l (daysL 0 146096)) (dayS l (daysL 0 146096)).length, 0)
set_option maxRecDepth 100000 in
set_option maxHeartbeats 6400000 in
theorem Hours_any (a : Option Addr) (cap : Nat) (l : List Cl) (w : World) (hl : l.length ≤ 9223372036854775807) (hlc : l.length ≤ cap) (hs : Sl w a (cls l)) (hno : a = none → cap = 0) (hok : ∀ c ∈ l, c.Ok) (hT : Tab w) :
    Calls Tryz.prog 33 #[.slice a l.length cap] w fun e w' => e = .returned (.tuple #[arrV (HoursP l).1, .int .i64 (HoursP l).2]) ∧ Below w.heap.size w w' := by
  obtain ⟨W1, hW1⟩ : ∃ W1, ((w.alloc (.cells #[.int .i64 0, .int .i64 0, .int .i64 0, .int .i64 0, .int .i64 0, .int .i64 0, .int .i64 0, .int .i64 0, .int .i64 0, .int .i64 0, .int .i64 0, .int .i64 0, .int .i64 0, .int .i64 0, .int .i64 0, .int .i64 0, .int .i64 0, .int .i64 0, .int .i64 0, .int .i64 0, .int .i64 0, .int .i64 0, .int .i64 0, .int .i64 0] 63)).alloc (.cells #[.int .i64 0, .int .i64 0, .int .i64 0, .int .i64 0, .int .i64 0, .int .i64 0, .int .i64 0, .int .i64 0, .int .i64 0, .int .i64 0, .int .i64 0, .int .i64 0, .int .i64 0, .int .i64 0, .int .i64 0, .int .i64 0, .int .i64 0, .int .i64 0, .int .i64 0, .int .i64 0, .int .i64 0, .int .i64 0, .int .i64 0, .int .i64 0] 63)).alloc (.cells #[.int .i64 0, .int .i64 0, .int .i64 0, .int .i64 0, .int .i64 0, .int .i64 0, .int .i64 0, .int .i64 0, .int .i64 0, .int .i64 0, .int .i64 0, .int .i64 0, .int .i64 0, .int .i64 0, .int .i64 0, .int .i64 0, .int .i64 0, .int .i64 0, .int .i64 0, .int .i64 0, .int .i64 0, .int .i64 0, .int .i64 0, .int .i64 0] 63) = W1 := ⟨_, rfl⟩
  have hB1 : Below w.heap.size w W1 := by rw [← hW1]; exact below_new (below_new (below_new (Below.refl _ _) (zG _)) (by simp)) (by simp only [World.size_alloc]; omega)
  have s1 : W1.heap.size = w.heap.size + 3 := by rw [← hW1]; simp
  have hA0 : Arr24 w.heap.size (fun _ => 0) W1 := by
    have e := arr24_new w 63 (fun _ => 0) (fun h => rfl)
    rw [← hW1]
    exact (e.block (by simp) (Below.heap_alloc _ _ _ (by simp))).block (by simp) (Below.heap_alloc _ _ _ (by simp only [World.size_alloc]; omega))
  have hA1 : Arr24 (w.heap.size + 1) (fun _ => 0) W1 := by
    have e := arr24_new (w.alloc (.cells #[.int .i64 0, .int .i64 0, .int .i64 0, .int .i64 0, .int .i64 0, .int .i64 0, .int .i64 0, .int .i64 0, .int .i64 0, .int .i64 0, .int .i64 0, .int .i64 0, .int .i64 0, .int .i64 0, .int .i64 0, .int .i64 0, .int .i64 0, .int .i64 0, .int .i64 0, .int .i64 0, .int .i64 0, .int .i64 0, .int .i64 0, .int .i64 0] 63)) 63 (fun _ => 0) (fun h => rfl)
    rw [World.size_alloc] at e
    rw [← hW1]
    exact e.block (by simp) (Below.heap_alloc _ _ _ (by simp))
  have hA2 : Arr24 (w.heap.size + 1 + 1) (fun _ => 0) W1 := by
    have e := arr24_new ((w.alloc (.cells #[.int .i64 0, .int .i64 0, .int .i64 0, .int .i64 0, .int .i64 0, .int .i64 0, .int .i64 0, .int .i64 0, .int .i64 0, .int .i64 0, .int .i64 0, .int .i64 0, .int .i64 0, .int .i64 0, .int .i64 0, .int .i64 0, .int .i64 0, .int .i64 0, .int .i64 0, .int .i64 0, .int .i64 0, .int .i64 0, .int .i64 0, .int .i64 0] 63)).alloc (.cells #[.int .i64 0, .int .i64 0, .int .i64 0, .int .i64 0, .int .i64 0, .int .i64 0, .int .i64 0, .int .i64 0, .int .i64 0, .int .i64 0, .int .i64 0, .int .i64 0, .int .i64 0, .int .i64 0, .int .i64 0, .int .i64 0, .int .i64 0, .int .i64 0, .int .i64 0, .int .i64 0, .int .i64 0, .int .i64 0, .int .i64 0, .int .i64 0] 63)) 63 (fun _ => 0) (fun h => rfl)
    rw [World.size_alloc, World.size_alloc] at e
    rw [← hW1]; exact e
  have cN := hid (RNew_any a cap l W1 hl hlc (hs.below hB1) hno hok (hT.later hB1))
  have hP : Hid (HoursP l = if faultL l ≠ 0 then (fun _ => 0, faultL l) else (hrT l (dayS l (daysL 0 146096)) (dayS l (daysL 0 146096)).length, 0)) := by show _ = _; rw [HoursP]
  obtain ⟨pr, hpr⟩ : ∃ x, HoursP l = x := ⟨_, rfl⟩
  rw [hpr] at hP ⊢
  have HB1 := hid hB1
  have HW1 := hid hW1
  have S1 := hid s1
  have HA0 := hid hA0
  have HA1 := hid hA1
  have HA2 := hid hA2
  have Ht0 : Hid (0 < w.heap.size) := hT.1
  clear hW1 hB1 hs hok hT s1 hno hlc hpr hA0 hA1 hA2
  refine (wf_calls (r := none) (n := 1)).mp ?_
  refine callsIn_of_wp_marks Tryz.func33 rfl trivial ?_ rfl
  simp only [Tryz.ntmps33, List.size_toArray, List.length_cons, List.length_nil, Nat.reduceAdd, Nat.reduceSub, Array.replicate_succ, Array.replicate_zero, List.push_toArray, List.append_toArray, List.nil_append, List.cons_append]
  gi_wp2_with fail
  rw [HW1.out]
  refine (wf_calls.mpr cN.out).mono ?_
  rintro e w2 ⟨hN, hB2⟩
  have hB02 := hid (HB1.out.trans (hB2.mono HB1.out.size))
  have S2 : Hid (w.heap.size + 3 ≤ w2.heap.size) := by have := hB2.size; have := S1.out; show _ ≤ _; omega
  have A0 := hid (HA0.out.block hB2.size (hB2.block _ HA0.out.lt))
  have A1 := hid (HA1.out.block hB2.size (hB2.block _ HA1.out.lt))
  have A2 := hid (HA2.out.block hB2.size (hB2.block _ HA2.out.lt))
  rcases hN with ⟨hf, rfl⟩ | ⟨hf, br, bk, bps, rfl, hR, hM⟩
  · have hpr : Hid (pr = (fun _ => 0, faultL l)) := by show _ = _; rw [hP.out, if_pos hf]
    obtain ⟨X, hX⟩ : ∃ X, faultL l = X := ⟨_, rfl⟩
    rw [hX] at hf hpr ⊢
    have hX0 : (X == 0) = false := by simpa using hf
    have hX1 : (X != 0) = true := by simpa using hf
    have hld := A1.out.ld
    have hst := A0.out.st (fun _ => 0)
    have HX9 := hid (A0.out.put (fun _ => 0))
    have HE9 : Hid (Eff (fun x => x = w.heap.size) w2 (w2.setCells w.heap.size 0 (L24 (fun _ => 0)))) := Eff.setCells (O := fun x => x = w.heap.size) rfl (L24 (fun _ => 0)) 0 w2 (Eff.refl _ w2)
    clear hB2 hX hP hf
    gi_wp2
    refine ⟨_, results_cell_mid2 rfl _ _ w.heap.size 0 _ _ rfl HX9.out.range Tryz.underlying63 rfl (by rw [L24_len]; exact info24), by rw [hpr.out]; rfl, hB02.out.trans (HE9.out.below (by rintro b rfl; exact zG _) hB02.out.size)⟩
  · have hpr : Hid (pr = (hrT l (dayS l (daysL 0 146096)) (dayS l (daysL 0 146096)).length, 0)) := by show _ = _; rw [hP.out, if_neg (by rw [hf]; simp)]
    have HR := hid hR
    have HM := hid hM
    clear hB2 hR hM hf hP
    gi_upto_region 6 with fail
    obtain ⟨W5, hW5⟩ : ∃ W5, w2.alloc (.cells #[.pointer none] 88) = W5 := ⟨_, rfl⟩
    have hB5 : Below w2.heap.size w2 W5 := by rw [← hW5]; exact below_new (Below.refl _ _) (zG _)
    have s5 : W5.heap.size = w2.heap.size + 1 := by rw [← hW5]; simp
    have hC5 : HrS (w.heap.size + 1) (w.heap.size + 1 + 1) w2.heap.size (hrT l (dayS l (daysL 0 146096)) 0) (fun _ => 0) none (fun b => b = w.heap.size + 1 ∨ b = w.heap.size + 1 + 1 ∨ b = w2.heap.size) W5 := by
      have hs2 := S2.out
      exact ⟨A1.out.block hB5.size (hB5.block _ A1.out.lt), A2.out.block hB5.size (hB5.block _ A2.out.lt), by rw [← hW5]; simp [go_sem, dptr], by rw [← hW5]; simp [go_sem], .inl rfl, .inr (.inl rfl), .inr (.inr rfl), fun b hb => by omega, by omega, by omega, by omega⟩
    have A05 := hid (A0.out.block hB5.size (hB5.block _ A0.out.lt))
    have HR5 : Hid (RollS W5 l br bk bps (FNew W1 w2) (fun _ => false) 0) := HR.out.keep hB5.size (fun b hb => hB5.block b (by have := S2.out; have := Ht0.out; rcases hb with hb | hb <;> omega))
    have HB5 := hid (hB02.out.trans (hB5.mono hB02.out.size))
    have HC5 := hid hC5
    have S5 := hid s5
    rw [hW5]
    obtain ⟨bq, hbq⟩ : ∃ c, w2.heap.size = c := ⟨_, rfl⟩
    rw [hbq] at HC5 S5 S2
    rw [hbq]
    have HFq : Hid (∀ b, FNew W1 w2 b → (w.heap.size + 3 ≤ b ∧ b < bq) ∨ b = 0) := fun b hb => by
      have := S1.out
      rcases hb with hb | hb
      · exact .inl (by omega)
      · exact .inr hb
    have cA := hid (RAllC_any 0 146096 HR5.out (InvS 0) (zG 0))
    have hbr := bnd_rng l (f := 0) (t := 146096) (by omega) (by omega)
    have hclip := dayS_clip l 0 146096
    obtain ⟨X1, hX1⟩ : ∃ X, bndF l 0 = X := ⟨_, rfl⟩
    obtain ⟨X2, hX2⟩ : ∃ X, bndU l 146096 = X := ⟨_, rfl⟩
    rw [hX1, hX2] at cA hbr hclip
    have tl := RAllF_any (cs := l) (br := br) (bk := bk) (bps := bps) InvS (W5.heap.size + 1) (W5.heap.size + 2) W5.heap.size X1 X2 hbr.1 hbr.2.1 hbr.2.2.1 hbr.2.2.2
      (fun j n ws m ws' m' hn hi hs => invS_step hi hs) (fun j ws m hi hj => by rw [daysL_len] at hj; rw [InvS] at hi; omega)
    rw [hclip] at tl
    obtain ⟨L, hL⟩ : ∃ L, (daysL X1 X2).length = L := ⟨_, rfl⟩
    rw [hL] at tl
    have TL := hid tl
    clear hbr hclip tl hL hX1 hX2 hC5 hB5 s5 hW5 hbq
    gi_wp2_with fail
    refine (wf_calls.mpr cA.out).mono ?_
    rintro e w6 ⟨rfl, hB6, hl6, hHA⟩
    have HB6 := hid (HB5.out.trans (hB6.mono HB5.out.size))
    have C6 := hid (HC5.out.keep hB6.size (fun c hc => hB6.block c (HC5.out.lt c hc)))
    have A06 := hid (A05.out.block hB6.size (hB6.block _ A05.out.lt))
    have HHA := hid hHA
    have HFO : Hid (∀ b, F3 (FNew W1 w2) W5.heap.size b → ¬ (b = w.heap.size + 1 ∨ b = w.heap.size + 1 + 1 ∨ b = bq) ∧ b ≠ w.heap.size) := fun b hb => by
      have := S2.out; have := S5.out; have := Ht0.out
      rcases hb with hb | hb
      · have := HFq.out b hb
        omega
      · omega
    clear hB6 hHA cA hl6
    gi_wp2_with fail
    refine range_outerG (F := F3 (FNew W1 w2) W5.heap.size) (M := RM br bk bps) (gf := 94) (lb := #[.pointer (some ⟨W5.heap.size + 1, 0, none⟩), .pointer (some ⟨W5.heap.size + 2, 0, none⟩), .pointer (some ⟨W5.heap.size, 0, none⟩)]) rfl rollall_enters (fun b => b = w.heap.size + 1 ∨ b = w.heap.size + 1 + 1 ∨ b = bq)
      (fun k vs F W h => by obtain ⟨_, _, _, _, _, rfl, _⟩ := h; rfl) TL.out HA.host HA.host HA.hostE HHA.out (fun b hb => (HFO.out b hb).1)
      (HrI l (RM br bk bps) (w.heap.size + 1) (w.heap.size + 1 + 1) bq) HrX (hrI_stab _ _ _ _ _) (hrX_stab _) (hrI_lt _ _ _ _ _) hrX_lt ⟨none, _, C6.out, fun x h => by cases h⟩
      (fun k O Fb a' W => HrI l (RM br bk bps) (w.heap.size + 1) (w.heap.size + 1 + 1) bq k O Fb W ∧ ∃ D d, (dayS l (daysL 0 146096))[k]? = some D ∧ HrD l (RM br bk bps) D d O Fb W ∧ HrA (.slice a l.length cap) undef (.pointer (some ⟨w.heap.size, 0, none⟩)) (.int .i64 0) (.pointer (some ⟨w.heap.size + 1, 0, none⟩)) (.pointer (some ⟨w.heap.size + 1 + 1, 0, none⟩)) (.pointer (some ⟨br, 0, none⟩)) (.int .i64 0) (.pointer (some ⟨bq, 0, none⟩)) (.pointer (some ⟨d, 0, none⟩)) [] a')
      ?putl ?assign ?body ?done ?stop
    case putl =>
      rintro l' o k O Fb a' W hr hnO hnF ⟨h1, D, d, h3, h4, h5⟩
      have ko : ∀ b, O b ∨ (Fb b ∧ ¬ RM br bk bps b) → (W.putObj l' o).heap[b]? = W.heap[b]? := fun b hb => World.putObj_heap_other (fun e => hb.elim (fun h => hnO (e ▸ h)) (fun h => hnF (e ▸ h.1)))
      exact ⟨hrI_stab _ (RM br bk bps) _ _ _ k O Fb Fb W _ h1 (by rw [World.putObj_size]; exact zG _) (fun _ h => h) ko, D, d, h3, h4.put hr hnF, h5⟩
    case assign =>
      rintro l' k O6 F6 W6 vs K hk hJ6 hFl ⟨D, d, hn, h0, h1, rfl, hd, ht, hlt⟩ hG6 hK
      have HP := hid (And.intro hJ6 (And.intro hFl (And.intro hn (And.intro hd (And.intro ht (And.intro hlt hG6))))))
      clear hJ6 hFl hn hd ht hlt hG6 h0 h1
      gi_wp2
      obtain ⟨hJ6, hFl, hn, hd, ht, hlt, hG6⟩ := HP.out
      exact hK _ O6 W6 (Grow.refl _ _) ⟨hJ6, D, d, hn, ⟨fun b hb => (hFl b hb).1, hd, ⟨ht.1, ht.2.1⟩, hlt⟩, HrA.of⟩
    case stop =>
      rintro c k O9 F9 w9 hk1 hk2 hG9 hHN hFs hFn hFO9 h
      exact h.elim
    case done =>
      rintro O9 F9 w9 hG9 hHN hFs hFn hFO9 ⟨c9, g9, hI, -⟩ hD hnD hnF
      have hs2 := S2.out
      have HB9 : Hid (Below w.heap.size w w9) := HB6.out.trans (hG9.eff.below (fun b hb => by
        rcases hb with (h | h | h) | h
        · omega
        · omega
        · omega
        · have := HM.out b h; have := S1.out; omega) HB6.out.size)
      have hA9 : Arr24 w.heap.size (fun _ => 0) w9 := A06.out.block hG9.eff.size (hG9.eff.block _ A06.out.lt (fun hb => by
        rcases hb with (h | h | h) | h
        · omega
        · omega
        · omega
        · have := HM.out _ h; have := S1.out; omega))
      obtain ⟨f, hfe⟩ : ∃ f, hrT l (dayS l (daysL 0 146096)) (dayS l (daysL 0 146096)).length = f := ⟨_, rfl⟩
      have hIo := hI.out
      rw [hfe] at hIo hpr
      have hld := hIo.ld
      have hst := hA9.st f
      have HA9 := hid (hA9.put f)
      have HE9 : Hid (Eff (fun x => x = w.heap.size) w9 (w9.setCells w.heap.size 0 (L24 f))) := Eff.setCells (O := fun x => x = w.heap.size) rfl (L24 f) 0 w9 (Eff.refl _ w9)
      have hne : w6.heap.size ≠ w.heap.size := fun e => by have := A06.out.lt; omega
      have HDx : Hid ((w9.setCells w.heap.size 0 (L24 f)).heap[w6.heap.size]? = some (.deferred (some []))) := by
        show _ = _
        rw [HE9.out.block w6.heap.size (Array.getElem?_eq_some_iff.1 hD).1 hne]
        exact hD
      have Hne := hid hne
      clear hG9 hHN hFs hFn hFO9 hnD hnF hD hI hA9 hIo hfe hne hs2
      gi_wp2
      refine ⟨by simp, .inl ⟨_, _, rfl, run_takeDeferred HDx.out, ?_⟩⟩
      have hX := HA9.out.block (W' := (w9.setCells w.heap.size 0 (L24 f)).putObj w6.heap.size (.deferred none)) (by rw [World.putObj_size]; exact zG _) (World.putObj_heap_other (fun e => Hne.out e.symm))
      refine ⟨_, results_cell_mid2 rfl _ _ w.heap.size 0 _ _ rfl hX.range Tryz.underlying63 rfl (by rw [L24_len]; exact info24), by rw [hpr.out]; rfl, below_putObj (HB9.out.trans (HE9.out.below (by rintro b rfl; exact zG _) HB9.out.size)) HB6.out.size _⟩
    case body =>
      rintro l3 k O6 F6 a' W6 hk hG6 hl3 hrec6 hnl3 hnF3 ⟨⟨c, g, hC6, hK6⟩, D, d, en, hD, V, rfl⟩
      have hmem := List.mem_of_getElem? en
      rw [dayS, List.mem_filter, daysL_mem] at hmem
      obtain ⟨⟨D0, D1⟩, -⟩ := hmem
      have hsn := fun h => hrT_snoc (cs := l) en h
      have hle := fun h (hh : h < 24) => hrT_le l (k := k + 1) hh (by have := (List.getElem?_eq_some_iff.1 en).1; omega)
      have cP := hid (Parts_hr d (dayQ l D) W6 hD.tab.1 hD.di.2.2)
      obtain ⟨f, hf⟩ : ∃ f, hrT l (dayS l (daysL 0 146096)) k = f := ⟨_, rfl⟩
      rw [hf] at hC6
      obtain ⟨G, hG⟩ : ∃ G, hrC (secL (dayQ l D)) = G := ⟨_, rfl⟩
      rw [hG] at cP
      have hsn2 : Hid (∀ h, hrT l (dayS l (daysL 0 146096)) (k + 1) h = f h + G h) := fun h => by rw [hsn h, hf, hG]
      have hgl : ∀ h, G h ≤ 86400 := fun h => by rw [← hG]; exact zI (hrC_le _ _) (secL_len _)
      have Hle : Hid (∀ h, h < 24 → f h + G h ≤ 12622780800) := fun h hh => by have := hle h hh; rw [hsn2.out] at this; exact this
      have HC6 := hid hC6
      have HK6 := hid hK6
      have HD6 := hid hD
      have HG := hid hG
      have Hgl := hid hgl
      have Hrec := hid hrec6
      have Hnl := hid hnl3
      have hHX : Hid (∀ wx, HrS (w.heap.size + 1) (w.heap.size + 1 + 1) bq f G (some d) O6 wx → Eff O6 W6 wx → HrK (some d) G (RM br bk bps) F6 wx) := fun wx _ hE x hx => by
        cases hx
        exact ⟨HD6.out.di.1, HD6.out.di.2.1, dayQ l D, HD6.out.di.2.2.eff hE (HD6.out.dj d HD6.out.di.1), HG.out.symm⟩
      have knz := hC6.zk
      have kn6 := hC6.kn
      have hdd := hD.di.2.2
      have Hdd := hid hdd
      clear hG6 hk en hC6 hK6 hD hsn hle hf hG hgl hrec6 hnl3 hnF3 hdd
      gi_step
      gi_step
      gi_step
      (try dsimp only)
      gi_cut [] from 25 (fun wx => HrS (w.heap.size + 1) (w.heap.size + 1 + 1) bq f G (some d) O6 wx ∧ Eff O6 W6 wx)
      case first =>
        have hnew : Hid (∀ w7, Below W6.heap.size W6 w7 → (storeA24S (.pointer (some ⟨w.heap.size + 1 + 1, 0, none⟩)) (arrV G)).run Tryz.prog (w7.setCell ⟨bq, 0, none⟩ (.pointer (some ⟨d, 0, none⟩))) = .ok () ((w7.setCell ⟨bq, 0, none⟩ (.pointer (some ⟨d, 0, none⟩))).setCells (w.heap.size + 1 + 1) 0 (L24 G)) ∧
            HrS (w.heap.size + 1) (w.heap.size + 1 + 1) bq f G (some d) O6 ((w7.setCell ⟨bq, 0, none⟩ (.pointer (some ⟨d, 0, none⟩))).setCells (w.heap.size + 1 + 1) 0 (L24 G)) ∧ Eff O6 W6 ((w7.setCell ⟨bq, 0, none⟩ (.pointer (some ⟨d, 0, none⟩))).setCells (w.heap.size + 1 + 1) 0 (L24 G))) := fun w7 hB7 => by
          have h7 := HC6.out.keep hB7.size (fun b hb => hB7.block b (HC6.out.lt b hb))
          have hne := h7.ne
          have hb8 : ∀ b, b ≠ bq → (w7.setCell ⟨bq, 0, none⟩ (.pointer (some ⟨d, 0, none⟩))).heap[b]? = w7.heap[b]? := fun b hb => Below.heap_setCell _ _ _ _ hb
          have hs8 : (w7.setCell ⟨bq, 0, none⟩ (.pointer (some ⟨d, 0, none⟩))).heap.size = w7.heap.size := by simp
          have hl8 : Arr24 (w.heap.size + 1 + 1) g (w7.setCell ⟨bq, 0, none⟩ (.pointer (some ⟨d, 0, none⟩))) := h7.last.block (by rw [hs8]; exact zG _) (hb8 _ hne.2.2)
          have hk8 : (w7.setCell ⟨bq, 0, none⟩ (.pointer (some ⟨d, 0, none⟩))).cell? ⟨bq, 0, none⟩ = some (dptr (some d)) := by simp [go_sem, h7.kn, dptr]
          have hz8 : (w7.setCell ⟨bq, 0, none⟩ (.pointer (some ⟨d, 0, none⟩))).frozen? ⟨bq, 0, none⟩ = false := by simp [go_sem, h7.zk]
          have ho8 := h7.out.block (W' := w7.setCell ⟨bq, 0, none⟩ (.pointer (some ⟨d, 0, none⟩))) (by rw [hs8]; exact zG _) (hb8 _ hne.2.1)
          have hE8 : Eff O6 W6 (w7.setCell ⟨bq, 0, none⟩ (.pointer (some ⟨d, 0, none⟩))) := (Eff.of_below hB7).set h7.o3 _ _
          obtain ⟨w8, hw8⟩ : ∃ w8, w7.setCell ⟨bq, 0, none⟩ (.pointer (some ⟨d, 0, none⟩)) = w8 := ⟨_, rfl⟩
          rw [hw8] at hl8 hk8 hz8 ho8 hE8 hs8 ⊢
          have hE9 : Eff (fun x => x = w.heap.size + 1 + 1) w8 (w8.setCells (w.heap.size + 1 + 1) 0 (L24 G)) := Eff.setCells (O := fun x => x = w.heap.size + 1 + 1) rfl (L24 G) 0 w8 (Eff.refl _ w8)
          refine ⟨hl8.st G, ⟨ho8.block hE9.size (hE9.block _ ho8.lt hne.1), hl8.put G, (hE9.cell (p := ⟨bq, 0, none⟩) (by rw [hs8]; exact h7.lt _ h7.o3) (fun e => hne.2.2 (Eq.symm e))).trans hk8, (hE9.frozen (p := ⟨bq, 0, none⟩) (by rw [hs8]; exact h7.lt _ h7.o3) (fun e => hne.2.2 (Eq.symm e))).trans hz8,
            h7.o1, h7.o2, h7.o3, fun b hb => zH (h7.lt b hb) (by rw [← hs8]; exact hE9.size), hne⟩, hE8.trans hE9 (fun b hb => by cases hb; exact .inl h7.o2)⟩
        have knew : Hid (∀ w7, Below W6.heap.size W6 w7 → w7.frozen? ⟨bq, 0, none⟩ = false ∧ ∃ v, w7.cell? ⟨bq, 0, none⟩ = some (dptr v)) := fun w7 hB7 => by
          have h7 := HC6.out.keep hB7.size (fun b hb => hB7.block b (HC6.out.lt b hb))
          exact ⟨h7.zk, _, h7.kn⟩
        cases c with
        | none =>
          replace kn6 : W6.cell? ⟨bq, 0, none⟩ = some (.pointer none) := kn6
          gi_wp2_with fail
          refine (wf_calls.mpr cP.out).mono ?_
          rintro e w7 ⟨rfl, hB7⟩
          obtain ⟨hst, hS8, hE8⟩ := hnew.out w7 hB7
          obtain ⟨z7, v7, k7⟩ := knew.out w7 hB7
          have HS8 := hid (And.intro hS8 hE8)
          clear hB7 hS8 hE8 cP
          gi_wp2
          gi_meet
          exact HS8.out
        | some x =>
          replace kn6 : W6.cell? ⟨bq, 0, none⟩ = some (.pointer (some ⟨x, 0, none⟩)) := kn6
          obtain ⟨-, -, q', hq1, hq2⟩ := HK6.out x rfl
          have hb := dNeq_run Hdd.out hq1
          by_cases hx : d = x
          · subst hx
            rw [show decide (d ≠ d) = false by simp] at hb
            have hgG : g = G := by
              have e : (List.range 86400).filter q' = (List.range 86400).filter (dayQ l D) := List.filter_congr fun k hk => DiscAt.unique hq1 Hdd.out k (List.mem_range.1 hk)
              rw [hq2, ← HG.out, secL, secL, sel, sel, e]
            have HS8 := hid (And.intro (show HrS (w.heap.size + 1) (w.heap.size + 1 + 1) bq f G (some d) O6 W6 from hgG ▸ HC6.out) (Eff.refl O6 W6))
            clear hq1 hq2 hgG cP hnew knew
            gi_wp2
            gi_meet
            exact HS8.out
          · rw [decide_eq_true hx] at hb
            clear hq1 hq2
            gi_wp2_with fail
            refine (wf_calls.mpr cP.out).mono ?_
            rintro e w7 ⟨rfl, hB7⟩
            obtain ⟨hst, hS8, hE8⟩ := hnew.out w7 hB7
            obtain ⟨z7, v7, k7⟩ := knew.out w7 hB7
            have HS8 := hid (And.intro hS8 hE8)
            clear hB7 hS8 hE8 cP
            gi_wp2
            gi_meet
            exact HS8.out
      case rest =>
        obtain ⟨hS, hE⟩ := hcut
        have HS := hid hS
        have HE := hid hE
        have cSp := hid (Span_any 0 23 1 wc (by omega) (by omega))
        have cM := hid (MAll_one (spanM 0 23 1) wc hours_lt)
        have hT0 := HD6.out.tab.1.eff hE (HD6.out.dj _ HD6.out.tab.2)
        have tells := hid (fun W9 (h1 : wc.heap.size + 1 < W9.heap.size) h2 h3 h4 h5 => mask_tells2 (spanM 0 23 1) (wc.heap.size + 1) (fun b => b = w.heap.size + 1) W9 hours_lt h1 h2 h3 h4 h5)
        rw [hours_xs] at tells
        obtain ⟨X, hX⟩ : ∃ X, ((List.range 24).map fun (i : Nat) => (i : Int)) = X := ⟨_, rfl⟩
        have hXl : X.length = 24 := by rw [← hX]; simp
        have hXi : Hid (∀ i (h : i < X.length), X[i] = (i : Int)) := by
          show ∀ _ _, _
          rw [← hX]; intro i h; simp
        rw [hX] at tells
        obtain ⟨sm, hsm⟩ : ∃ sm, spanM 0 23 1 = sm := ⟨_, rfl⟩
        rw [hsm] at cSp cM tells
        have HT0 := hid hT0
        have HXl := hid hXl
        clear hS hE hX hsm hT0 hXl cP kn6 knz
        gi_wp2_with fail
        refine (wf_calls.mpr cSp.out).mono ?_
        rintro e w8 ⟨rfl, rfl⟩
        gi_wp2_with fail
        refine (wf_calls.mpr cM.out).mono ?_
        rintro e w9 ⟨rfl, hn1, hn2, hn3⟩
        have hrec9 : ∃ r, w9.heap[l3]? = some (.loop r) := by
          obtain ⟨r, hr⟩ := Hrec.out
          exact ⟨r, (hn2.block l3 (zH (heap_lt hr) HE.out.size)).trans ((HE.out.block l3 (heap_lt hr) Hnl.out).trans hr)⟩
        have hlo := HS.out.lt _ HS.out.o1
        have tl := hid (tells.out w9 hn3 (by omega) hn1 (HT0.out.later hn2) (by have := Ht0.out; have := HT0.out.1; intro e; exact HD6.out.dj _ HD6.out.tab.2 (e ▸ HS.out.o1)))
        have HS9 := hid (HS.out.keep hn2.size (fun b hb => hn2.block b (HS.out.lt b hb)))
        have HE9 : Hid (Eff O6 W6 w9) := HE.out.trans (Eff.of_below (O := fun _ => False) hn2) (fun b hb => hb.elim)
        clear hn1 hn2 hn3 hlo cM cSp
        gi_wp2_with fail
        refine range_inner2 (gf := 107) (lb := #[.pointer (some ⟨wc.heap.size + 1, 0, none⟩)]) hrec9 rfl mask_enters X (fun b => b = w.heap.size + 1) rfl tl.out
          (HiI (w.heap.size + 1) f G) (fun _ _ _ _ => False) (hiI_stab _ _ _) (fun _ _ _ _ _ h _ _ => h.elim) (fun k O W h => h.2.2) (fun _ _ _ _ h => h.elim) ⟨HS9.out.out.congr (fun i _ => by rw [if_neg (by omega)]), rfl, fun c hc => by rw [hc]; exact HS9.out.lt _ HS9.out.o1⟩
          (fun h O a' W => HiI (w.heap.size + 1) f G h O W ∧ HrB (.pointer (some ⟨w.heap.size + 1, 0, none⟩)) (.pointer (some ⟨w.heap.size + 1 + 1, 0, none⟩)) (.int .i64 (h : Nat)) [] a')
          (fun l o k O a' W' hr hn h => ⟨stab_put (hiI_stab _ _ _) h.1 hn o, h.2⟩) ?assign2 ?body2 ?done2 ?stop2
        case assign2 =>
          intro l h O W K hh hI hG2 hK
          rw [hXi.out h hh]
          gi_wp2
          exact hK _ O W (Grow.refl _ _) ⟨hI, HrB.of⟩
        case stop2 =>
          rintro c j O4 W4 hj1 hj2 hG4 h
          exact h.elim
        case done2 =>
          rintro O4 W4 hG4 ⟨hA, hO, hlt⟩
          rw [HXl.out] at hA
          have hne := HS9.out.ne
          have hS4 : HrS (w.heap.size + 1) (w.heap.size + 1 + 1) bq (hrT l (dayS l (daysL 0 146096)) (k + 1)) G (some d) O6 W4 :=
            ⟨hA.congr (fun i hi => by rw [hsn2.out i, if_pos hi]), HS9.out.last.block hG4.eff.size (hG4.eff.block _ HS9.out.last.lt (fun e => hne.1 (Eq.symm e))), (hG4.eff.cell (p := ⟨bq, 0, none⟩) (HS9.out.lt _ HS9.out.o3) (fun e => hne.2.1 (Eq.symm e))).trans HS9.out.kn,
              (hG4.eff.frozen (p := ⟨bq, 0, none⟩) (HS9.out.lt _ HS9.out.o3) (fun e => hne.2.1 (Eq.symm e))).trans HS9.out.zk, HS9.out.o1, HS9.out.o2, HS9.out.o3, fun b hb => zH (HS9.out.lt b hb) hG4.eff.size, hne⟩
          have hE4 : Eff O6 W6 W4 := HE9.out.trans hG4.eff (fun b hb => by cases hb; exact .inl HS9.out.o1)
          have hK4 : HrK (some d) G (RM br bk bps) F6 W4 := fun x hx => by
            cases hx
            exact ⟨HD6.out.di.1, HD6.out.di.2.1, dayQ l D, HD6.out.di.2.2.eff hE4 (HD6.out.dj d HD6.out.di.1), HG.out.symm⟩
          have HF4 := hid (And.intro hE4 (And.intro hS4 hK4))
          clear hA hO hlt hG4 hS4 hE4 hK4
          gi_wp2
          exact ⟨O6, ⟨fun _ h => h, fun _ h => .inl h, HF4.out.1⟩, some d, G, HF4.out.2.1, HF4.out.2.2⟩
        case body2 =>
          rintro l2 h O4 a' W4 hh hG4 hl2 hrec4 hnl2 ⟨⟨hA, hO, hlt⟩, V2, rfl⟩
          have h24 : h < 24 := by rw [← HXl.out]; exact hh
          have h24i : (h : Int) < 24 := by omega
          have hh0 : (0 : Int) ≤ (h : Int) := by omega
          have hwh : IntKind.i64.wrap (h : Int) = (h : Int) := IntWalk.i64_in _ (by omega)
          have ch := hA.c h h24
          rw [if_neg (Nat.lt_irrefl h)] at ch
          have zh := hA.z h
          have hne := HS9.out.ne
          have cg : W4.cell? ⟨w.heap.size + 1 + 1, h, none⟩ = some (.int .i64 (G h : Nat)) := (hG4.eff.cell (p := ⟨w.heap.size + 1 + 1, h, none⟩) HS9.out.last.lt (fun e => hne.1 (Eq.symm e))).trans (HS9.out.last.c h h24)
          have hfg := Hle.out h h24
          have HN : Hid (Arr24 (w.heap.size + 1) (fun i => if i < h + 1 then f i + G i else f i) (W4.drew.setCell ⟨w.heap.size + 1, h, none⟩ (.int .i64 ((f h : Nat) + (G h : Nat))))) := (hA.block (W' := W4.drew) (zG _) rfl).set h24 (by rw [if_pos (by omega)]; omega) (fun j hj hne => by
            by_cases e : j < h
            · rw [if_pos e, if_pos (by omega)]
            · rw [if_neg e, if_neg (by omega)])
          obtain ⟨x, hx⟩ : ∃ x, f h = x := ⟨_, rfl⟩
          obtain ⟨y, hy⟩ : ∃ y, G h = y := ⟨_, rfl⟩
          rw [hx] at ch
          rw [hy] at cg
          rw [hx, hy] at hfg HN
          have hwr : IntKind.i64.wrap ((x : Int) + (y : Int)) = (x : Int) + (y : Int) := IntWalk.i64_in _ (by omega)
          have HO := hid hO
          have Hlt := hid hlt
          have cg2 : W4.drew.cell? ⟨w.heap.size + 1 + 1, h, none⟩ = some (.int .i64 (y : Nat)) := cg
          clear hA hO hlt hG4 hrec4 hnl2 hl2 hh hne hx hy cg
          gi_upto_region 12 with fail
          refine regW (S := fun W => W.cell? ⟨w.heap.size + 1 + 1, h, none⟩ = some (.int .i64 (y : Nat))) (by kernel_rfl) (by kernel_rfl) (by rintro ⟨_, _, h⟩; exact h) cg2 (fun hHeld => ?_)
          refine wpAnyH_take (i := 0) (v := ?_) rfl (by kernel_rfl) (by kernel_rfl) (by kernel_rfl) (fun _ _ _ h => h) (Or.inl ⟨by rfl, ?_⟩) (by assumption) ?_
          rotate_left
          · intro w' hSw; go_simp; (try with_reducible rfl)
          try simp only [Act.put, zA, zC, zD, zE, zF]
          refine wpAnyH_take (i := 1) (v := ?_) rfl (by kernel_rfl) (by kernel_rfl) (by kernel_rfl) (fun _ _ _ h => h) (Or.inl ⟨by rfl, ?_⟩) (by assumption) ?_
          rotate_left
          · intro w' hSw; go_simp; (try with_reducible rfl)
          try simp only [Act.put, zA, zB, zC, zD, zE, zF]
          refine wpAnyH_take (i := 3) (v := ?_) rfl (by kernel_rfl) (by kernel_rfl) (by kernel_rfl) (fun _ _ _ h => h) (Or.inl ⟨by rfl, ?_⟩) (by assumption) ?_
          rotate_left
          · intro w' hSw; go_simp; (try with_reducible rfl)
          try simp only [Act.put, zA, zB, zC, zD, zE, zF]
          refine wpAnyH_take (i := 4) (v := ?_) rfl (by kernel_rfl) (by kernel_rfl) (by kernel_rfl) (fun _ _ _ h => h) (Or.inl ⟨by rfl, ?_⟩) (by assumption) ?_
          rotate_left
          · intro w' hSw; go_simp; (try with_reducible rfl)
          try simp only [Act.put, zA, zB, zC, zD, zE, zF]
          refine wpAnyH_take (i := 5) (v := ?_) rfl (by kernel_rfl) (by kernel_rfl) (by kernel_rfl) (fun _ _ _ h => h) (Or.inl ⟨by rfl, ?_⟩) (by assumption) ?_
          rotate_left
          · intro w' hSw; go_simp; (try with_reducible rfl)
          try simp only [Act.put, zA, zB, zC, zD, zE, zF]
          refine wpAnyH_ready (rs := [2]) (by kernel_rfl) (by simp) ?_
          refine AllReadyH.cons rfl (fun K hK => ?_) AllReadyH.nil
          go_simp
          refine hK.out _ _ cg2 (fun hHeld => ?_)
          clear hK K
          try simp only [Act.put, zA, zB, zC, zD, zE, zF]
          refine wpAnyH_take (i := 6) (v := ?_) rfl (by kernel_rfl) (by kernel_rfl) (by kernel_rfl) (fun _ _ _ h => h) (Or.inl ⟨by rfl, ?_⟩) (by assumption) ?_
          rotate_left
          · intro w' hSw; go_simp; (try with_reducible rfl)
          try simp only [Act.put, zA, zB, zC, zD, zE, zF]
          refine wpAnyH_take (i := 7) (v := ?_) rfl (by kernel_rfl) (by kernel_rfl) (by kernel_rfl) (fun _ _ _ h => h) (Or.inl ⟨by rfl, ?_⟩) (by assumption) ?_
          rotate_left
          · intro w' hSw; go_simp; (try with_reducible rfl)
          try simp only [Act.put, zA, zB, zC, zD, zE, zF]
          refine wpAnyH_ready (rs := [8]) (by kernel_rfl) (by simp) ?_
          refine AllReadyH.cons rfl (fun K hK => ?_) AllReadyH.nil
          go_simp
          refine hK.out _ _ (by first | exact (World.cell?_of_block (w := W4.drew) (a := ⟨w.heap.size + 1 + 1, h, none⟩) (Below.heap_setCell _ _ _ _ (by simp))).trans cg2 | exact (World.cell?_of_block (w := W4.drew) (a := ⟨w.heap.size + 1 + 1, h, none⟩) (Below.heap_setCell _ _ _ _ (by simp only []; omega))).trans cg2) (fun hHeld => ?_)
          clear hK K
          try simp only [Act.put, zA, zB, zC, zD, zE, zF]
          refine wpAnyH_done (by kernel_rfl) ?_ _
          have HE4 : Hid (Eff O4 W4 (W4.drew.setCell ⟨w.heap.size + 1, h, none⟩ (.int .i64 ((x : Int) + (y : Int))))) := ((Eff.refl O4 W4).drew).set HO.out _ _
          clear hHeld
          gi_wp2
          exact ⟨O4, ⟨fun _ h => h, fun _ h => .inl h, HE4.out⟩, HN.out, HO.out, fun b hb => zH (Hlt.out b hb) HE4.out.size⟩
end Go.Proofs.YtchceegpbfecaaaGreatDoor

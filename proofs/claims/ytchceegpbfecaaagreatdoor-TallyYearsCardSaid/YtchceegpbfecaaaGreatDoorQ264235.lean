/-
  tally.parts: how many seconds of a disc each hour has.
-/
import Derived.Test.YtchceegpbfecaaaGreatDoorQc8d347
import Derived.Test.YtchceegpbfecaaaGreatDoorQ5eae37
import Derived.Test.YtchceegpbfecaaaGreatDoorQ7d2e2d
import Derived.BigRegion
namespace Go.Proofs.YtchceegpbfecaaaGreatDoor
open Go.RowKit Go.Maps
set_option linter.unusedVariables false
attribute [local go_sem] Oper.semAt_some

structure Arr24 (b : Nat) (f : Nat → Nat) (W : World) : Prop where
  c : ∀ h, h < 24 → W.cell? ⟨b, h, none⟩ = some (.int .i64 (f h : Nat))
  z : ∀ h, W.frozen? ⟨b, h, none⟩ = false
  lt : b < W.heap.size
theorem Arr24.block {b : Nat} {f : Nat → Nat} {W W' : World} (h : Arr24 b f W) (hs : W.heap.size ≤ W'.heap.size) (hb : W'.heap[b]? = W.heap[b]?) : Arr24 b f W' :=
  ⟨fun i hi => (World.cell?_of_block (w := W) (a := ⟨b, i, none⟩) hb).trans (h.c i hi), fun i => (World.frozen?_of_block (w := W) (a := ⟨b, i, none⟩) hb).trans (h.z i), zH h.lt hs⟩
theorem Arr24.set {b : Nat} {f g : Nat → Nat} {W : World} (h : Arr24 b f W) {i : Nat} {v : Int} (hi : i < 24) (hv : v = (g i : Nat)) (hg : ∀ j, j < 24 → j ≠ i → g j = f j) : Arr24 b g (W.setCell ⟨b, i, none⟩ (.int .i64 v)) := by
  subst hv
  have h1 := h.c i hi
  refine ⟨fun j hj => ?_, fun j => ?_, by simpa using h.lt⟩
  · by_cases e : j = i
    · subst e; simp [go_sem, h1]
    · rw [World.cell?_setCell_other _ _ _ _ (fun e2 => by injection e2 with _ e3; omega), h.c j hj, hg j hj e]
  · simpa [go_sem] using h.z j
def arrV (f : Nat → Nat) : Value := .agg #[.int .i64 (f 0 : Nat), .int .i64 (f 1 : Nat), .int .i64 (f 2 : Nat), .int .i64 (f 3 : Nat), .int .i64 (f 4 : Nat), .int .i64 (f 5 : Nat), .int .i64 (f 6 : Nat), .int .i64 (f 7 : Nat), .int .i64 (f 8 : Nat), .int .i64 (f 9 : Nat), .int .i64 (f 10 : Nat), .int .i64 (f 11 : Nat),
  .int .i64 (f 12 : Nat), .int .i64 (f 13 : Nat), .int .i64 (f 14 : Nat), .int .i64 (f 15 : Nat), .int .i64 (f 16 : Nat), .int .i64 (f 17 : Nat), .int .i64 (f 18 : Nat), .int .i64 (f 19 : Nat), .int .i64 (f 20 : Nat), .int .i64 (f 21 : Nat), .int .i64 (f 22 : Nat), .int .i64 (f 23 : Nat)]
def L24 (f : Nat → Nat) : List Value := (List.range 24).map fun i => .int .i64 (f i : Nat)
theorem arrV_L24 (f : Nat → Nat) : arrV f = .agg (L24 f).toArray := rfl
theorem L24_len (f : Nat → Nat) : (L24 f).length = 24 := by simp [L24]
theorem L24_at (f : Nat → Nat) {j : Nat} (hj : j < (L24 f).length) : (L24 f)[j] = .int .i64 (f j : Nat) := by simp [L24]
theorem info24 : (Tryz.prog.info? 63).map (·.size) = some 24 := by kernel_rfl
theorem Arr24.range {b : Nat} {f : Nat → Nat} {W : World} (h : Arr24 b f W) : W.rangeAt b 0 (L24 f) := fun j v hv => by
  obtain ⟨hj, e⟩ := List.getElem?_eq_some_iff.1 hv
  rw [L24_at] at e
  rw [Nat.zero_add, h.c j (by rw [L24_len] at hj; exact hj), ← e]
theorem Arr24.there {b : Nat} {f : Nat → Nat} {W : World} (h : Arr24 b f W) (g : Nat → Nat) : W.there b 0 (L24 g).toArray.size := fun j hj => by
  rw [List.size_toArray, L24_len] at hj
  rw [Nat.zero_add]
  exact ⟨by rw [h.c j hj]; rfl, h.z j⟩
def loadA24S (v : Value) : Sem Value := Instr.loadAt 63 v
theorem loadAt_a24 (v : Value) : Instr.loadAt 63 v = loadA24S v := rfl
def storeA24S (v u : Value) : Sem Unit := Instr.storeAt 63 v u
theorem storeAt_a24 (v u : Value) : Instr.storeAt 63 v u = storeA24S v u := rfl
theorem Arr24.ld {b : Nat} {f : Nat → Nat} {W : World} (h : Arr24 b f W) : (loadA24S (.pointer (some ⟨b, 0, none⟩))).run Tryz.prog W = .ok (arrV f) W := by
  unfold loadA24S
  simp only [Instr.loadAt, Instr.sureAddr, Sem.run_bind, Sem.run_pure, Result.andThen_ok, run_loadVar_mid W b 0 63 (L24 f) _ h.range Tryz.underlying63 rfl (by rw [L24_len]; exact info24)]
  rfl
theorem Arr24.st {b : Nat} {f : Nat → Nat} {W : World} (h : Arr24 b f W) (g : Nat → Nat) : (storeA24S (.pointer (some ⟨b, 0, none⟩)) (arrV g)).run Tryz.prog W = .ok () (W.setCells b 0 (L24 g)) := by
  unfold storeA24S
  rw [arrV_L24, run_storeAt_mid W b 0 63 (L24 g).toArray (h.there g) (by rw [List.size_toArray, L24_len]; exact info24) (by simp [L24, Value.oneCell'])]
theorem Arr24.put {b : Nat} {f : Nat → Nat} {W : World} (h : Arr24 b f W) (g : Nat → Nat) : Arr24 b g (W.setCells b 0 (L24 g)) := by
  have hs := (Eff.setCells (O := fun x => x = b) rfl (L24 g) 0 W (Eff.refl _ W)).size
  refine ⟨fun i hi => ?_, fun i => by rw [World.frozen?_setCells]; exact h.z i, zH h.lt hs⟩
  have := World.cell?_setCells_in b (L24 g) 0 W (fun j hj => by rw [L24_len] at hj; rw [Nat.zero_add, h.c j hj]; rfl) i (by rw [L24_len]; exact hi)
  rw [Nat.zero_add, L24_at] at this
  exact this
attribute [local go_sem ↓] loadAt_a24 storeAt_a24
theorem arr24_new (w : World) (t : TypeId) (f : Nat → Nat) (hf : ∀ h, f h = 0) : Arr24 w.heap.size f (w.alloc (.cells #[.int .i64 0, .int .i64 0, .int .i64 0, .int .i64 0, .int .i64 0, .int .i64 0, .int .i64 0, .int .i64 0, .int .i64 0, .int .i64 0, .int .i64 0, .int .i64 0, .int .i64 0, .int .i64 0, .int .i64 0, .int .i64 0, .int .i64 0, .int .i64 0, .int .i64 0, .int .i64 0, .int .i64 0, .int .i64 0, .int .i64 0, .int .i64 0] t)) := by
  have e : (#[.int .i64 0, .int .i64 0, .int .i64 0, .int .i64 0, .int .i64 0, .int .i64 0, .int .i64 0, .int .i64 0, .int .i64 0, .int .i64 0, .int .i64 0, .int .i64 0, .int .i64 0, .int .i64 0, .int .i64 0, .int .i64 0, .int .i64 0, .int .i64 0, .int .i64 0, .int .i64 0, .int .i64 0, .int .i64 0, .int .i64 0, .int .i64 0] : Array Value) = (List.replicate 24 (.int .i64 0)).toArray := rfl
  refine ⟨fun h hh => ?_, fun h => frozen_fresh w _ t h, by simp⟩
  rw [e, hf]
  have e2 : (List.replicate 24 (Value.int .i64 0)).toArray[h]? = some (.int .i64 0) := by rw [List.getElem?_toArray, List.getElem?_replicate, if_pos hh]
  rw [World.cell?, World.alloc_heap_new]
  simpa using e2
theorem hrC_snoc {xs : List Int} {k : Nat} (hk : k < xs.length) (h : Nat) : hrC (xs.take (k + 1)) h = hrC (xs.take k) h + if xs[k] / 3600 = (h : Int) then 1 else 0 := by
  rw [hrC, take_snoc xs k hk, List.filter_append, List.length_append, hrC, List.filter_cons]
  by_cases e : xs[k] / 3600 = (h : Int)
  · rw [if_pos (by simpa using e), if_pos e]; rfl
  · rw [if_neg (by simpa using e), if_neg e]; rfl
theorem hrC_le (l : List Int) (h : Nat) : hrC l h ≤ l.length := List.length_filter_le _ _
def PaI (b : Nat) (xs : List Int) : OwnP := fun k O W => Arr24 b (hrC (xs.take k)) W ∧ O b ∧ ∀ c, O c → c < W.heap.size
theorem paI_stab (b : Nat) (xs : List Int) : StabO (PaI b xs) := fun k O W W' ⟨h1, h2, h3⟩ hs hO => ⟨h1.block hs (hO b h2), h2, fun c hc => zH (h3 c hc) hs⟩
theorem discall_enters (args : Array Value) (w : World) : (callFunc 149 args).run Tryz.prog w = .ok (.enter 149 args) w := by simp [go_sem]
set_option maxRecDepth 100000 in
set_option maxHeartbeats 3200000 in
theorem Parts_hr (d : Nat) (q : Nat → Bool) (w : World) (hT : Tab w) (h : DiscAt w d q) :
    Calls Tryz.prog 59 #[.pointer (some ⟨d, 0, none⟩)] w fun e w' => e = .returned (arrV (hrC (secL q))) ∧ Below w.heap.size w w' := by
  obtain ⟨W1, hW1⟩ : ∃ W1, (w.alloc (.cells #[.int .i64 0, .int .i64 0, .int .i64 0, .int .i64 0, .int .i64 0, .int .i64 0, .int .i64 0, .int .i64 0, .int .i64 0, .int .i64 0, .int .i64 0, .int .i64 0, .int .i64 0, .int .i64 0, .int .i64 0, .int .i64 0, .int .i64 0, .int .i64 0, .int .i64 0, .int .i64 0, .int .i64 0, .int .i64 0, .int .i64 0, .int .i64 0] 63)).alloc (.cells #[.int .i64 0, .int .i64 0, .int .i64 0, .int .i64 0, .int .i64 0, .int .i64 0, .int .i64 0, .int .i64 0, .int .i64 0, .int .i64 0, .int .i64 0, .int .i64 0, .int .i64 0, .int .i64 0, .int .i64 0, .int .i64 0, .int .i64 0, .int .i64 0, .int .i64 0, .int .i64 0, .int .i64 0, .int .i64 0, .int .i64 0, .int .i64 0] 63) = W1 := ⟨_, rfl⟩
  have hB1 : Below w.heap.size w W1 := by rw [← hW1]; exact below_new (below_new (Below.refl _ _) (zG _)) (by simp)
  have s1 : W1.heap.size = w.heap.size + 2 := by rw [← hW1]; simp
  have hA1 : Arr24 (w.heap.size + 1) (hrC []) W1 := by
    have e := arr24_new (w.alloc (.cells #[.int .i64 0, .int .i64 0, .int .i64 0, .int .i64 0, .int .i64 0, .int .i64 0, .int .i64 0, .int .i64 0, .int .i64 0, .int .i64 0, .int .i64 0, .int .i64 0, .int .i64 0, .int .i64 0, .int .i64 0, .int .i64 0, .int .i64 0, .int .i64 0, .int .i64 0, .int .i64 0, .int .i64 0, .int .i64 0, .int .i64 0, .int .i64 0] 63)) 63 (hrC []) (fun h => rfl)
    rw [World.size_alloc] at e
    rw [← hW1]; exact e
  have hA0 : Arr24 w.heap.size (fun _ => 0) W1 := by
    have e := arr24_new w 63 (fun _ => 0) (fun h => rfl)
    rw [← hW1]
    exact e.block (by simp) (Below.heap_alloc _ _ _ (by simp))
  have cA := hid (DcAllO_any (some d) q W1 (h.below hB1 h.lt))
  have HT := hid hT
  have HB1 := hid hB1
  have HW1 := hid hW1
  have S1 := hid s1
  have HA1 := hid hA1
  have HA0 := hid hA0
  have hlen := secL_len q
  have hmem : Hid (∀ x ∈ secL q, 0 ≤ x ∧ x < 86400) := sec_rng q
  obtain ⟨X, hX⟩ : ∃ X, secL q = X := ⟨_, rfl⟩
  rw [hX] at hlen hmem cA
  rw [hX]
  clear hW1 hB1 s1 hA1 hA0 hT h hX
  refine (wf_calls (r := none) (n := 1)).mp ?_
  refine callsIn_of_wp_marks Tryz.func59 rfl trivial ?_ rfl
  simp only [Tryz.ntmps59, List.size_toArray, List.length_cons, List.length_nil, Nat.reduceAdd, Nat.reduceSub, Array.replicate_succ, Array.replicate_zero, List.push_toArray, List.append_toArray, List.nil_append, List.cons_append]
  gi_wp2_with fail
  rw [HW1.out]
  refine (wf_calls.mpr cA.out).mono ?_
  rintro e w2 ⟨rfl, ht, hB2, hl2⟩
  obtain ⟨t, t1, t2, t3⟩ := ht.out
  have hB02 : Below w.heap.size w w2 := HB1.out.trans (hB2.mono HB1.out.size)
  have hA2 : Arr24 (w.heap.size + 1) (hrC []) w2 := HA1.out.block hB2.size (hB2.block _ HA1.out.lt)
  have tl : Tells2 Tryz.prog 149 #[.pointer (some ⟨W1.heap.size, 0, none⟩)] X (fun b => b = w.heap.size + 1) w2 := by
    intro y J Jx O W hO hB hC hJ
    rw [← t3] at hC ⊢
    have hnO : ¬ O W1.heap.size := fun h => by
      rcases hO _ h with h | h
      · have := S1.out; omega
      · omega
    exact DiscIter_any t W1.heap.size y J Jx O W t2 hC hJ (zH hl2 hB.size) hnO (t1.below hB hl2) (HT.out.later (hB02.trans (hB.mono hB02.size))) (fun h => by
      have h0 := HT.out.1
      rcases hO _ h with h | h
      · omega
      · have := hB02.size; omega)
  have TL := hid tl
  have HB02 := hid hB02
  have HB12 := hid hB2
  have HA2 := hid hA2
  clear tl hB02 hA2 ht t1 t3 hB2 cA
  gi_wp2_with fail
  refine range_outer2 (gf := 149) (lb := #[.pointer (some ⟨W1.heap.size, 0, none⟩)]) rfl discall_enters X (fun b => b = w.heap.size + 1) rfl TL.out
    (PaI (w.heap.size + 1) X) (fun _ _ _ _ => False) (paI_stab _ _) (fun _ _ _ _ _ h _ _ => h.elim) (fun k O W h => h.2.2) (fun _ _ _ _ h => h.elim) ⟨HA2.out, rfl, fun c hc => by rw [hc]; exact HA2.out.lt⟩
    (fun k O a' W => PaI (w.heap.size + 1) X k O W ∧ ∀ hk : k < X.length, a' = { tmps := #[.pointer (some ⟨d, 0, none⟩), undef, .pointer (some ⟨w.heap.size, 0, none⟩), .pointer (some ⟨w.heap.size + 1, 0, none⟩), .int .i64 X[k], .pointer (some ⟨d, 0, none⟩), .func (.func 149) #[] #[.pointer (some ⟨W1.heap.size, 0, none⟩)], .int .i64 X[k], undef, undef, undef, undef, undef, undef, undef], defers := [] })
    (fun l o k O a' W' hr hn h => ⟨stab_put (paI_stab _ _) h.1 hn o, h.2⟩) ?assign ?body ?done ?stop
  case assign =>
    intro l k O W K hk hI hG hK
    gi_wp2
    exact hK _ O W (Grow.refl _ _) ⟨hI, fun _ => rfl⟩
  case stop =>
    rintro c k O' W' h1 h2 hG h
    exact h.elim
  case body =>
    rintro l k O a' W hk hG hl hrec hnl ⟨⟨hA, hO, hlt⟩, ha⟩
    rw [ha hk]
    have hx := hmem.out _ (List.getElem_mem hk)
    have hsn := hrC_snoc hk
    obtain ⟨x, hxe⟩ : ∃ x, X[k] = x := ⟨_, rfl⟩
    rw [hxe] at hx hsn
    rw [hxe]
    obtain ⟨x0, x1⟩ := hx
    obtain ⟨h, hh⟩ : ∃ h : Nat, x / 3600 = (h : Int) := ⟨(x / 3600).toNat, by omega⟩
    have h24 : h < 24 := by omega
    have h24i : (h : Int) < 24 := by omega
    have ch := hA.c h h24
    have zh := hA.z h
    have hle := hrC_le (X.take k) h
    rw [List.length_take] at hle
    obtain ⟨c, hc⟩ : ∃ c, hrC (X.take k) h = c := ⟨_, rfl⟩
    rw [hc] at ch hle
    have hcb : c ≤ 86400 := by omega
    have hnx : Hid (Arr24 (w.heap.size + 1) (hrC (X.take (k + 1))) (W.setCell ⟨w.heap.size + 1, h, none⟩ (.int .i64 ((c : Int) + 1)))) := hA.set h24 (by rw [hsn h, if_pos hh, hc]; omega) (fun j hj hne => by rw [hsn j, if_neg (by omega)]; rfl)
    have HO := hid hO
    have Hlt := hid hlt
    clear hsn hxe ha hle hc hO hlt hA
    gi_wp2
    exact ⟨O, ⟨fun _ h => h, fun _ h => .inl h, (Eff.refl O W).set HO.out _ _⟩, hnx.out, HO.out, fun b hb => by simpa using Hlt.out b hb⟩
  case done =>
    rintro O' W' hG ⟨hA, hO, hlt⟩ hD hnD
    rw [List.take_length] at hA
    have hA9 : Arr24 w.heap.size (fun _ => 0) W' := by
      have h2 := HA0.out.block (HB12.out.size) (HB12.out.block _ HA0.out.lt)
      exact h2.block hG.eff.size (hG.eff.block _ h2.lt (by omega))
    have HB9 : Hid (Below w.heap.size w W') := HB02.out.trans (hG.eff.below (by rintro b rfl; omega) HB02.out.size)
    have HD := hid hD
    have HnD : Hid (¬ w2.heap.size = w.heap.size ∧ w2.heap.size < W'.heap.size) := ⟨fun e => by have := HB02.out.size; have := HA2.out.lt; omega, (Array.getElem?_eq_some_iff.1 hD).1⟩
    have hld := hA.ld
    have hst := hA9.st (hrC X)
    have HA9 := hid (hA9.put (hrC X))
    have HE9 : Hid (Eff (fun x => x = w.heap.size) W' (W'.setCells w.heap.size 0 (L24 (hrC X)))) := Eff.setCells (O := fun x => x = w.heap.size) rfl (L24 (hrC X)) 0 W' (Eff.refl _ W')
    have HDx : Hid ((W'.setCells w.heap.size 0 (L24 (hrC X))).heap[w2.heap.size]? = some (.deferred (some []))) := by
      show _ = _
      rw [HE9.out.block w2.heap.size (zH HnD.out.2 (zG _)) (fun e => HnD.out.1 e)]
      exact HD.out
    clear hG hA hO hlt hD hnD hA9
    gi_wp2
    refine ⟨by simp, .inl ⟨_, _, rfl, run_takeDeferred HDx.out, ?_⟩⟩
    have hX := HA9.out.block (W' := (W'.setCells w.heap.size 0 (L24 (hrC X))).putObj w2.heap.size (.deferred none)) (by rw [World.putObj_size]; exact zG _) (World.putObj_heap_other (fun e => HnD.out.1 e.symm))
    exact ⟨_, results_cell_mid rfl _ _ w.heap.size 0 _ _ rfl hX.range Tryz.underlying63 rfl (by rw [L24_len]; exact info24), rfl, below_putObj (HB9.out.trans (HE9.out.below (by rintro b rfl; exact zG _) HB9.out.size)) HB02.out.size _⟩
end Go.Proofs.YtchceegpbfecaaaGreatDoor

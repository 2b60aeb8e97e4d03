/-
  The law of a range over a function that has a state of its own, once more: the teller's blocks do not hold the loop's.
  seek.All's function, walked: it tells the instants of a set, from one to another one.
  seek.Next and seek.First.
  tally.counter (and its function) and tally.part.
  A region that draws its order, in a round of a range over a function: walked as one outside of it.
-/
import Derived.Test.YtchceegpbfecaaaGreatDoorQ2a88d1
import Derived.Test.YtchceegpbfecaaaGreatDoorQ5eae37
import Derived.Test.YtchceegpbfecaaaGreatDoorQ74da93
import Derived.BigRegion
import Derived.LaidEql
import Derived.Laws.EntriesVeiled
import Derived.Test.YtchceegpbfecaaaGreatDoorQ7b8650
import Derived.OrdersIn
import Derived.OrdersHeld
import Derived.Deep.RegionHeld3
import Derived.Sort.CutIn
namespace Go.Proofs.YtchceegpbfecaaaGreatDoor
set_option linter.unusedVariables false
section
open Go.RowKit

theorem range_outerG {P : Program} {m : Nat} {g : Operand} {ps : Array Tmp} {assign body : Code} {Q : Exit → Act → World → Prop} {a : Act} {w : World} {gf : Nat} {lb : Array Value} {n : Nat} {V : Nat → Array Value → Blk → World → Prop} {H HN HS : Blk → World → Prop} {M F : Blk}
    (hg : a.eval g = .func (.func gf) #[] lb) (eg : ∀ args w, (callFunc gf args).run P w = .ok (.enter gf args) w) (Ow : Blk) (hps : ∀ k vs F W, V k vs F W → vs.size = ps.size) (hseq : TellsH P gf lb n V H HN HS M) (hH : HostOk H M) (hN : HostOk HN M) (hS : HostOk HS M) (hF : H F w) (hFO : ∀ b, F b → ¬ Ow b)
    (I : OwnF) (Ix : Code → OwnF) (hI : StabF M I) (hIx : ∀ c, StabF M (Ix c)) (hIl : LtF I) (hIxl : ∀ c, LtF (Ix c)) (h0 : I 0 Ow F w)
    (A : Nat → Blk → Blk → Act → World → Prop) (hA : ∀ l o k O F a' W, (∃ r, W.heap[l]? = some (.loop r)) → ¬ O l → ¬ F l → A k O F a' W → A k O F a' (W.putObj l o))
    (hassign : ∀ l k O F W vs (K : Act → World → Prop), k < n → I k O F W → (∀ b, F b → ¬ O b ∧ b ≠ l) → V k vs F W → GrowM M Ow O w W → (∀ a' O' W', Grow O O' W W' → A k O' F a' W' → K a' W') →
      assign.wpIn (WF (some l)) m P (Exit.then K (fun _ _ _ => False)) { tmps := (ps.zip vs).foldl (fun t (p, v) => t.setIfInBounds p v) a.tmps, defers := [] } W)
    (hbody : ∀ l k O F a' W, k < n → GrowM M Ow O w W → w.heap.size ≤ l → (∃ r, W.heap[l]? = some (.loop r)) → ¬ O l → ¬ F l → A k O F a' W → body.wpIn (WF (some l)) m P (RPost (atF I F) (fun c => atF (Ix c) F) k O W) a' W)
    (hdone : ∀ O' F' W', GrowM M Ow O' w W' → HN F' W' → (∀ b, F b → F' b) → (∀ b, F' b → F b ∨ w.heap.size ≤ b) → (∀ b, F' b → ¬ O' b) → I n O' F' W' → W'.heap[w.heap.size]? = some (.deferred (some [])) → ¬ O' w.heap.size → ¬ F' w.heap.size → Q .normal { a with defers := { target := .collected w.heap.size, args := #[] } :: a.defers } W')
    (hstop : ∀ c k O' F' W', 1 ≤ k → k ≤ n → GrowM M Ow O' w W' → HS F' W' → (∀ b, F b → F' b) → (∀ b, F' b → F b ∨ w.heap.size ≤ b) → (∀ b, F' b → ¬ O' b) → Ix c k O' F' W' → W'.heap[w.heap.size]? = some (.deferred (some [])) → ¬ O' w.heap.size → ¬ F' w.heap.size →
      c.wpIn (WF none) m P Q { a with defers := { target := .collected w.heap.size, args := #[] } :: a.defers } W') :
    (Code.rangeFunc g ps assign body).wpIn (WF none) m P Q a w := by
  refine wpIn_rangeFunc ?_
  intro fn hfn
  obtain ⟨W1, hW1⟩ : ∃ W1, (w.alloc (.deferred (some []))).alloc (.loop (loopRec fn a.tmps ps assign body w.heap.size .ready none)) = W1 := ⟨_, rfl⟩
  have hL1 : W1.heap[w.heap.size + 1]? = some (.loop (loopRec fn a.tmps ps assign body w.heap.size .ready none)) := by
    rw [← hW1]; have := World.alloc_heap_new (w.alloc (.deferred (some []))) (.loop (loopRec fn a.tmps ps assign body w.heap.size .ready none)); rwa [World.size_alloc] at this
  have hB1 : Below w.heap.size w W1 := by rw [← hW1]; exact ((Below.refl _ w).alloc (zG _) _).alloc (by simp) _
  have hK1 : W1.heap[w.heap.size]? = some (.deferred (some [])) := by
    rw [← hW1]; exact (Below.heap_alloc _ _ _ (by simp)).trans (World.alloc_heap_new w _)
  have hlt := hIl 0 Ow F w h0
  have hFlt := hH.lt F w hF
  have hF1 : H F W1 := hH.stab F w W1 hF hB1.size (fun b hb => hB1.block b (hFlt b hb))
  have hMlt : ∀ b, M b → b < w.heap.size := fun b hb => hFlt b (hH.sub F w hF b hb)
  have hJ : RJF (loopRec fn a.tmps ps assign body w.heap.size .ready none) (w.heap.size + 1) (some w.heap.size) I 0 (fun b => Ow b ∨ b = w.heap.size + 1 ∨ some w.heap.size = some b) F W1 :=
    ⟨Ow, fun b => Iff.rfl, fun h => by have := hlt _ h; omega, fun d hd => by cases hd; exact ⟨fun h => by have := hlt _ h; omega, by omega, hK1⟩, hI 0 Ow F F w W1 h0 hB1.size (fun _ h => h) (fun b hb => hB1.block b (hb.elim (hlt b) (fun h => hFlt b h.1))), hL1⟩
  have hlc := heap_lt hL1
  have hC := loop_clientH (P := P) (m := m) (fn := fn) (tmps := a.tmps) (D := w.heap.size) (l := w.heap.size + 1) (Dk := some w.heap.size) (n := n) (V := V) (M := M) hps hI hIx hIl hIxl A hA Ow (fun b => Ow b ∨ b = w.heap.size + 1 ∨ some w.heap.size = some b) w W1 (by omega) (fun O O1 W hO hG => ⟨fun b hb => by
      have hb2 := hlt b hb
      rcases (hO b).mp (hG.sub b (.inl hb)) with h | h | h
      · exact h
      · omega
      · cases h; omega, fun b hb => by
      rcases hG.new b ((hO b).mpr (.inl hb)) with (h | h | h) | h
      · exact .inl h
      · exact .inr (by omega)
      · cases h; exact .inr (by omega)
      · exact .inr (by have := hB1.size; omega), (Eff.of_below (O := fun b => Ow b ∨ M b) hB1).trans hG.eff fun b hb => by
      rcases hb with (h | h | h) | h
      · exact .inl (.inl h)
      · exact .inr (by omega)
      · cases h; exact .inr (by omega)
      · exact .inl (.inr h)⟩) (hassign (w.heap.size + 1)) (fun k O F a' W hk hG => hbody (w.heap.size + 1) k O F a' W hk hG (by omega))
  have hcall := hseq _ _ _ _ F W1 hF1 (fun b hb h => by
    have := hFlt b hb
    rcases h with h | h | h
    · exact hFO b hb h
    · omega
    · cases h; omega) hC hJ
  refine ⟨w.heap.size + 1, [{ target := .collected w.heap.size, args := #[] }], W1, { target := .fn (.func gf) lb, args := #[.func (.yield (w.heap.size + 1)) #[] #[]] }, W1, gf,
    #[.func (.yield (w.heap.size + 1)) #[] #[]] ++ lb, W1, ?_, ?_, fun _ _ => trivial, ?_, (fun h => nomatch h), ?_⟩
  · rw [← hW1]; exact run_enterLoop_outer _ _ _ _ _
  · simp only [resolve, hg]; simp [go_sem]
  · simp [invoke, go_sem, eg]
  · refine wf_calls.mpr (hcall.mono ?_)
    have back : ∀ (X : OwnF) (H2 : Blk → World → Prop) (k : Nat) (O' F' : Nat → Prop) (W2 : World) (st : LoopState) (pe : Option Code), StabF M X → HostOk H2 M → st ≠ .busy → GrowM M (fun b => Ow b ∨ b = w.heap.size + 1 ∨ some w.heap.size = some b) O' W1 W2 →
        H2 F' W2 → (∀ b, F' b → ¬ O' b) → RJF (loopRec fn a.tmps ps assign body w.heap.size st pe) (w.heap.size + 1) (some w.heap.size) X k O' F' W2 →
        (Instr.endLoop (w.heap.size + 1)).run P W2 = .ok pe (W2.putObj (w.heap.size + 1) (.loop (loopRec fn a.tmps ps assign body w.heap.size .exhausted pe))) ∧ ∃ O2, GrowM M Ow O2 w (W2.putObj (w.heap.size + 1) (.loop (loopRec fn a.tmps ps assign body w.heap.size .exhausted pe))) ∧
          H2 F' (W2.putObj (w.heap.size + 1) (.loop (loopRec fn a.tmps ps assign body w.heap.size .exhausted pe))) ∧ (∀ b, F' b → ¬ O2 b) ∧ X k O2 F' (W2.putObj (w.heap.size + 1) (.loop (loopRec fn a.tmps ps assign body w.heap.size .exhausted pe))) ∧
          (W2.putObj (w.heap.size + 1) (.loop (loopRec fn a.tmps ps assign body w.heap.size .exhausted pe))).heap[w.heap.size]? = some (.deferred (some [])) ∧ ¬ O2 w.heap.size := by
      rintro X H2 k O' F' W2 st pe hX hH2 hst hGM hF2 hFO2 ⟨O1, hO, hnl, hD, hi, hl⟩
      have hr := run_endLoop (P := P) hl hst
      have hO1 : ∀ b, O1 b → O' b := fun b hb => (hO b).mpr (.inl hb)
      have hOl : O' (w.heap.size + 1) := (hO _).mpr (.inr (.inl rfl))
      refine ⟨hr, O1, ⟨fun b hb => ?_, fun b hb => ?_, ?_⟩, hH2.stab F' W2 _ hF2 (by rw [World.putObj_size]; exact zG _) (fun b hb => World.putObj_heap_other (fun e => hFO2 b hb (e ▸ hOl))), fun b hb h => hFO2 b hb (hO1 b h), hX _ _ _ _ _ _ hi (by rw [World.putObj_size]; exact zG _) (fun _ h => h) (fun b hb => World.putObj_heap_other (fun e => by
          rcases hb with hb | hb
          · exact hnl (e ▸ hb)
          · exact hFO2 b hb.1 (e ▸ hOl))), (World.putObj_heap_other (by omega)).trans (hD _ rfl).2.2, (hD _ rfl).1⟩
      · have hb2 := hlt b hb
        rcases (hO b).mp (hGM.sub b (.inl hb)) with h | h | h
        · exact h
        · omega
        · cases h; omega
      · rcases hGM.new b ((hO b).mpr (.inl hb)) with (h | h | h) | h
        · exact .inl h
        · exact .inr (by omega)
        · cases h; exact .inr (by omega)
        · exact .inr (by have := hB1.size; omega)
      · refine Eff.putObj ((Eff.of_below (O := fun b => Ow b ∨ M b) hB1).trans hGM.eff fun b hb => ?_) (.inr (by omega)) _
        rcases hb with (h | h | h) | h
        · exact .inl (.inl h)
        · exact .inr (by omega)
        · cases h; exact .inr (by omega)
        · exact .inl (.inr h)
    rintro e W2 ⟨⟨v, rfl⟩, O', F', hGM, hFs, hFn, hFO2, hend⟩
    have hFn2 : ∀ b, F' b → F b ∨ w.heap.size ≤ b := fun b hb => by
      rcases hFn b hb with h | h
      · exact .inl h
      · exact .inr (by have := hB1.size; omega)
    have nFD : ¬ F' w.heap.size := fun h => hFO2 _ h (hGM.sub _ (.inr (.inr rfl)))
    rcases hend with ⟨hF2, hj⟩ | ⟨hF2, k, hk1, hk2, c, hj⟩
    · obtain ⟨h1, O2, h2, h3, h4, h5, h6, h7⟩ := back I HN n O' F' W2 .ready none hI hN (by simp) hGM hF2 hFO2 hj
      exact ⟨none, _, h1, hdone O2 F' _ h2 h3 hFs hFn2 h4 h5 h6 h7 nFD⟩
    · obtain ⟨h1, O2, h2, h3, h4, h5, h6, h7⟩ := back (Ix c) HS k O' F' W2 .done (some c) (hIx c) hS (by simp) hGM hF2 hFO2 hj
      exact ⟨some c, _, h1, hstop c k O2 F' _ hk1 hk2 h2 h3 hFs hFn2 h4 h5 h6 h7 nFD⟩
end
section
open Go.RowKit Go.Maps
attribute [local go_sem] Oper.semAt_some

structure BxF (M : Blk) (xf xu : Nat) (f u : Int) (F : Blk) (W : World) : Prop where
  inf : F xf ∧ ¬ M xf
  inu : F xu ∧ ¬ M xu
  cf : W.cell? ⟨xf, 0, none⟩ = some (.int .i64 f)
  cu : W.cell? ⟨xu, 0, none⟩ = some (.int .i64 u)
theorem BxF.keep {M : Blk} {xf xu : Nat} {f u : Int} {F F' : Blk} {W W' : World} (h : BxF M xf xu f u F W) (hF : ∀ b, F b → F' b) (hb : ∀ b, F b ∧ ¬ M b → W'.heap[b]? = W.heap[b]?) : BxF M xf xu f u F' W' :=
  ⟨⟨hF _ h.inf.1, h.inf.2⟩, ⟨hF _ h.inu.1, h.inu.2⟩, (World.cell?_of_block (w := W) (a := ⟨xf, 0, none⟩) (hb _ h.inf)).trans h.cf, (World.cell?_of_block (w := W) (a := ⟨xu, 0, none⟩) (hb _ h.inu)).trans h.cu⟩
structure HSk (cs : List Cl) (br bk : Nat) (bps : List Nat) (xe xf xu xr : Nat) (f u : Int) (Inv : (Nat → Bool) → Nat → Prop) (F : Blk) (W : World) : Prop where
  roll : ∃ ws m, RollS W cs br bk bps F ws m ∧ Inv ws m
  bx : BxF (RM br bk bps) xf xu f u F W
  ine : F xe ∧ ¬ RM br bk bps xe
  inr : F xr ∧ ¬ RM br bk bps xr
  ce : W.cell? ⟨xe, 0, none⟩ = some (.int .i64 0)
  cr : W.cell? ⟨xr, 0, none⟩ = some (.pointer (some ⟨br, 0, none⟩))
section
variable {cs : List Cl} {br bk : Nat} {bps : List Nat} {xe xf xu xr : Nat} {f u : Int} {Inv Inv' : (Nat → Bool) → Nat → Prop} {F F' : Blk} {W W' : World}
theorem HSk.keep (h : HSk cs br bk bps xe xf xu xr f u Inv F W) (hs : W.heap.size ≤ W'.heap.size) (hb : ∀ b, F b → W'.heap[b]? = W.heap[b]?) : HSk cs br bk bps xe xf xu xr f u Inv F W' := by
  obtain ⟨ws, m, h1, h2⟩ := h.roll
  exact ⟨⟨ws, m, h1.keep hs hb, h2⟩, h.bx.keep (fun _ h => h) (fun b hF => hb b hF.1), h.ine, h.inr, (World.cell?_of_block (w := W) (a := ⟨xe, 0, none⟩) (hb _ h.ine.1)).trans h.ce, (World.cell?_of_block (w := W) (a := ⟨xr, 0, none⟩) (hb _ h.inr.1)).trans h.cr⟩
theorem HSk.lt (h : HSk cs br bk bps xe xf xu xr f u Inv F W) : ∀ b, F b → b < W.heap.size := by
  obtain ⟨ws, m, h1, h2⟩ := h.roll; exact h1.x.lt
theorem HSk.sub (h : HSk cs br bk bps xe xf xu xr f u Inv F W) : ∀ b, RM br bk bps b → F b := by
  obtain ⟨ws, m, h1, h2⟩ := h.roll; exact h1.x.sub
theorem HSk.host : HostOk (HSk cs br bk bps xe xf xu xr f u Inv) (RM br bk bps) := ⟨fun F W W' h hs hb => h.keep hs hb, fun F W h => h.lt, fun F W h => h.sub⟩
theorem HSk.step (h : HSk cs br bk bps xe xf xu xr f u Inv F W) {ws : Nat → Bool} {m : Nat} (hR : RollS W' cs br bk bps F' ws m) (hI : Inv' ws m) (hF : ∀ b, F b → F' b) (hb : ∀ b, F b → ¬ RM br bk bps b → W'.heap[b]? = W.heap[b]?) : HSk cs br bk bps xe xf xu xr f u Inv' F' W' :=
  ⟨⟨ws, m, hR, hI⟩, h.bx.keep hF (fun b hF => hb b hF.1 hF.2), ⟨hF _ h.ine.1, h.ine.2⟩, ⟨hF _ h.inr.1, h.inr.2⟩, (World.cell?_of_block (w := W) (a := ⟨xe, 0, none⟩) (hb _ h.ine.1 h.ine.2)).trans h.ce, (World.cell?_of_block (w := W) (a := ⟨xr, 0, none⟩) (hb _ h.inr.1 h.inr.2)).trans h.cr⟩
end
def InvS (j : Nat) (ws : Nat → Bool) (m : Nat) : Prop := m ≤ j
theorem invS_step {cs : List Cl} {n : Int} {j : Nat} {ws ws' : Nat → Bool} {m m' : Nat} (h : InvS j ws m) (hs : AtStep cs n ws m ws' m') : InvS (j + 1) ws' m' := by
  have := (at_more hs).1; rw [InvS] at h ⊢; omega
theorem rollall_enters (args : Array Value) (w : World) : (callFunc 94 args).run Tryz.prog w = .ok (.enter 94 args) w := by simp [go_sem]
structure SkD (cs : List Cl) (M : Blk) (n : Int) (d bx : Nat) (O F : Blk) (W : World) : Prop where
  dj : ∀ b, F b → ¬ O b
  di : DiF W F M d (dayQ cs n)
  tab : Tab W ∧ F 0
  lt : ∀ b, F b → b < W.heap.size
  lx : bx < W.heap.size
  nx : ¬ O bx ∧ ¬ F bx
  sh : ShS W bx (shF n)
theorem SkD.put {cs : List Cl} {M : Blk} {n : Int} {d bx l : Nat} {O F : Blk} {W : World} {o : Obj} (h : SkD cs M n d bx O F W) (hr : ∃ r, W.heap[l]? = some (.loop r)) (hF : ¬ F l) : SkD cs M n d bx O F (W.putObj l o) := by
  have ps : (W.putObj l o).heap.size = W.heap.size := World.putObj_size
  have ko : ∀ b, F b → (W.putObj l o).heap[b]? = W.heap[b]? := fun b hb => World.putObj_heap_other (fun e => hF (e ▸ hb))
  exact ⟨h.dj, ⟨h.di.1, h.di.2.1, h.di.2.2.block (by rw [ps]; exact zG _) (ko _ h.di.1)⟩, ⟨⟨by rw [ps]; exact h.tab.1.1, fun i hi => (World.cell?_of_block (w := W) (a := ⟨0, i, none⟩) (ko _ h.tab.2)).trans (h.tab.1.2 i hi)⟩, h.tab.2⟩, by rw [ps]; exact h.lt, by rw [ps]; exact h.lx, h.nx, shS_put h.sh hr⟩
def SkT (h0 h1 h2 h3 h4 h5 h6 h7 : Value) (ds : List Deferred) (a : Act) : Prop := ∃ V : Nat → Value, a = { tmps := #[h0, h1, h2, h3, h4, h5, h6, h7, V 8, V 9, V 10, V 11, V 12, V 13, V 14, V 15, V 16, V 17, V 18, V 19, V 20, V 21, V 22, V 23, V 24, V 25, V 26, V 27, V 28, V 29, V 30, V 31, V 32, V 33, V 34, V 35, V 36, V 37, V 38, V 39, V 40, V 41, V 42, V 43, V 44, V 45, V 46, V 47, V 48, V 49, V 50, V 51, V 52, V 53, V 54, V 55, V 56, V 57, V 58], defers := ds }
theorem SkT.of {h0 h1 h2 h3 h4 h5 h6 h7 u8 u9 u10 u11 u12 u13 u14 u15 u16 u17 u18 u19 u20 u21 u22 u23 u24 u25 u26 u27 u28 u29 u30 u31 u32 u33 u34 u35 u36 u37 u38 u39 u40 u41 u42 u43 u44 u45 u46 u47 u48 u49 u50 u51 u52 u53 u54 u55 u56 u57 u58 : Value} {ds : List Deferred} : SkT h0 h1 h2 h3 h4 h5 h6 h7 ds { tmps := #[h0, h1, h2, h3, h4, h5, h6, h7, u8, u9, u10, u11, u12, u13, u14, u15, u16, u17, u18, u19, u20, u21, u22, u23, u24, u25, u26, u27, u28, u29, u30, u31, u32, u33, u34, u35, u36, u37, u38, u39, u40, u41, u42, u43, u44, u45, u46, u47, u48, u49, u50, u51, u52, u53, u54, u55, u56, u57, u58], defers := ds } := ⟨fun i => (#[u8, u9, u10, u11, u12, u13, u14, u15, u16, u17, u18, u19, u20, u21, u22, u23, u24, u25, u26, u27, u28, u29, u30, u31, u32, u33, u34, u35, u36, u37, u38, u39, u40, u41, u42, u43, u44, u45, u46, u47, u48, u49, u50, u51, u52, u53, u54, u55, u56, u57, u58] : Array Value).getD (#[0, 0, 0, 0, 0, 0, 0, 0, 0, 1, 2, 3, 4, 5, 6, 7, 8, 9, 10, 11, 12, 13, 14, 15, 16, 17, 18, 19, 20, 21, 22, 23, 24, 25, 26, 27, 28, 29, 30, 31, 32, 33, 34, 35, 36, 37, 38, 39, 40, 41, 42, 43, 44, 45, 46, 47, 48, 49, 50].getD i 0) undef, rfl⟩
end
section
open Go.RowKit Go.Maps
attribute [local go_sem] Oper.semAt_some

structure TwoC (b : Nat) (x y : Int) (O : Blk) (W : World) : Prop where
  c4 : W.cell? ⟨b, 0, none⟩ = some (.int .i64 x)
  c5 : W.cell? ⟨b + 1, 0, none⟩ = some (.int .i64 y)
  f4 : W.frozen? ⟨b, 0, none⟩ = false
  f5 : W.frozen? ⟨b + 1, 0, none⟩ = false
  o4 : O b
  o5 : O (b + 1)
  lt : ∀ c, O c → c < W.heap.size
theorem TwoC.keep {b : Nat} {x y : Int} {O : Blk} {W W' : World} (h : TwoC b x y O W) (hs : W.heap.size ≤ W'.heap.size) (hb : ∀ c, O c → W'.heap[c]? = W.heap[c]?) : TwoC b x y O W' :=
  ⟨(World.cell?_of_block (w := W) (a := ⟨b, 0, none⟩) (hb _ h.o4)).trans h.c4, (World.cell?_of_block (w := W) (a := ⟨b + 1, 0, none⟩) (hb _ h.o5)).trans h.c5,
   (World.frozen?_of_block (w := W) (a := ⟨b, 0, none⟩) (hb _ h.o4)).trans h.f4, (World.frozen?_of_block (w := W) (a := ⟨b + 1, 0, none⟩) (hb _ h.o5)).trans h.f5, h.o4, h.o5, fun c hc => zH (h.lt c hc) hs⟩
theorem TwoC.set {b : Nat} {x y x' y' : Int} {O : Blk} {W : World} (h : TwoC b x y O W) : TwoC b x' y' O ((W.setCell ⟨b, 0, none⟩ (.int .i64 x')).setCell ⟨b + 1, 0, none⟩ (.int .i64 y')) := by
  obtain ⟨h1, h2, h3, h4, h5, h6, h7⟩ := h
  refine ⟨?_, ?_, ?_, ?_, h5, h6, fun c hc => by simpa using h7 c hc⟩ <;> simp [go_sem, h1, h2, h3, h4]
end
section
open Go.RowKit Go.Maps

theorem rising_len {L : List Int} (hp : L.Pairwise (· < ·)) {lo hi : Int} (h : ∀ x ∈ L, lo ≤ x ∧ x ≤ hi) : L.length = 0 ∨ (L.length : Int) ≤ hi - lo + 1 := by
  have key : ∀ i (h2 : i < L.length), lo + i ≤ L[i] := by
    intro i
    induction i with
    | zero => intro h2; have := (h _ (List.getElem_mem h2)).1; omega
    | succ i ih =>
      intro h2
      have h3 := ih (by omega)
      have h4 := List.pairwise_iff_getElem.1 hp i (i + 1) (by omega) h2 (by omega)
      omega
  rcases Nat.eq_zero_or_pos L.length with h0 | h0
  · exact .inl h0
  · have h1 := key (L.length - 1) (by omega)
    have h2 := (h _ (List.getElem_mem (show L.length - 1 < L.length by omega))).2
    exact .inr (by omega)
theorem cntT_le (cs : List Cl) (f u : Int) : cntT cs f u ≤ 12622780800 := by
  rcases rising_len (instA_up cs f u) (lo := 0) (hi := 12622780799) (fun x hx => by have := inst_win (instA_mem.1 hx).2.2; omega) with h | h
  · rw [cntT, h]; omega
  · rw [cntT]; omega
theorem cntI_le (cs : List Cl) (f u : Int) (ds : List Int) (k : Nat) : cntI cs f u ds k ≤ (instL cs f u ds).length := by
  have e : instL cs f u ds = instL cs f u (ds.take k) ++ instL cs f u (ds.drop k) := by
    rw [instL, instL, instL, ← List.flatMap_append, List.take_append_drop]
  rw [e, List.length_append, cntI]; omega
theorem run_same_diff {P : Program} {w : World} {d x : Nat} (cd : (w.cell? ⟨d, 0, none⟩).isSome = true) (cx : (w.cell? ⟨x, 0, none⟩).isSome = true) (hd : ∀ i, w.frozen? ⟨d, i, none⟩ = false) (hx : ∀ i, w.frozen? ⟨x, i, none⟩ = false) (hne : d ≠ x) :
    (sameAddr ⟨d, 0, none⟩ ⟨x, 0, none⟩).run P w = .ok false w := by
  have key : ∀ b, (w.cell? ⟨b, 0, none⟩).isSome = true → ∃ c t s, w.heap[b]? = some (.cells c t s) := fun b h => by
    unfold World.cell? at h
    split at h
    · exact ⟨_, _, _, by assumption⟩
    · cases h
  obtain ⟨c1, t1, s1, e1⟩ := key d cd
  obtain ⟨c2, t2, s2, e2⟩ := key x cx
  have sd : w.shape? d = some (t1, c1.size) := by unfold World.shape?; rw [e1]
  have sx : w.shape? x = some (t2, c2.size) := by unfold World.shape?; rw [e2]
  simp [sameAddr, hne, noView, viewAt, mayBeOne, stringish, hd, hx, sd, sx]
theorem pNeq_run {P : Program} {w : World} {tp te : TypeId} {j : TypeInfo} (hp : P.underlying tp = some (.pointer te)) (hte : P.info? te = some j) (hsz : j.size ≠ 0) {d x : Nat} (cd : (w.cell? ⟨d, 0, none⟩).isSome = true) (cx : (w.cell? ⟨x, 0, none⟩).isSome = true) (hd : ∀ i, w.frozen? ⟨d, i, none⟩ = false) (hx : ∀ i, w.frozen? ⟨x, i, none⟩ = false) :
    (binOp .neq tp (.pointer (some ⟨d, 0, none⟩)) (.pointer (some ⟨x, 0, none⟩))).run P w = .ok (.bool (decide (d ≠ x))) w := by
  have hs : (sameAddr ⟨d, 0, none⟩ ⟨x, 0, none⟩).run P w = .ok (decide (d = x)) w := by
    by_cases hne : d = x
    · subst hne; rw [run_sameAddr_same]; simp
    · rw [run_same_diff cd cx hd hx hne]; simp [hne]
  have h : ∀ n : Nat, (Op.equalIn (n + 1) tp (.pointer (some ⟨d, 0, none⟩)) (.pointer (some ⟨x, 0, none⟩))).run P w = .ok (decide (d = x)) w := fun n => by
    simp [Op.equalIn, run_underlying hp, sizeOf, typeInfo, hte, hsz, hs]
  simp only [binOp]
  simp [Op.equal, Op.maxDepth, h 9999]
theorem dNeq_run {w : World} {d x : Nat} {q q' : Nat → Bool} (hd : DiscAt w d q) (hx : DiscAt w x q') : (binOp .neq 88 (.pointer (some ⟨d, 0, none⟩)) (.pointer (some ⟨x, 0, none⟩))).run Tryz.prog w = .ok (.bool (decide (d ≠ x))) w := by
  have hi : ((Tryz.prog.info? 142).map fun i => decide (i.size ≠ 0)) = some true := by kernel_rfl
  obtain ⟨f, h1, h2, -⟩ := hd
  obtain ⟨g, g1, g2, -⟩ := hx
  cases hj : Tryz.prog.info? 142 with
  | none => rw [hj] at hi; cases hi
  | some j =>
    rw [hj] at hi
    exact pNeq_run Tryz.underlying88 hj (by simpa using hi) (by rw [h1 0 (by omega)]; rfl) (by rw [g1 0 (by omega)]; rfl) h2 g2
structure CntC (bl : Nat) (c : Option Nat) (m : Int) (W : World) : Prop where
  cl : W.cell? ⟨bl, 0, none⟩ = some (dptr c)
  cm : W.cell? ⟨bl + 1, 0, none⟩ = some (.int .i64 m)
  fl : W.frozen? ⟨bl, 0, none⟩ = false
  fm : W.frozen? ⟨bl + 1, 0, none⟩ = false
  lt : bl + 1 < W.heap.size
theorem CntC.block {bl : Nat} {c : Option Nat} {m : Int} {W W' : World} (h : CntC bl c m W) (hs : W.heap.size ≤ W'.heap.size) (h0 : W'.heap[bl]? = W.heap[bl]?) (h1 : W'.heap[bl + 1]? = W.heap[bl + 1]?) : CntC bl c m W' :=
  ⟨(World.cell?_of_block (w := W) (a := ⟨bl, 0, none⟩) h0).trans h.cl, (World.cell?_of_block (w := W) (a := ⟨bl + 1, 0, none⟩) h1).trans h.cm,
   (World.frozen?_of_block (w := W) (a := ⟨bl, 0, none⟩) h0).trans h.fl, (World.frozen?_of_block (w := W) (a := ⟨bl + 1, 0, none⟩) h1).trans h.fm, zH h.lt hs⟩
theorem CntC.set {bl : Nat} {c c' : Option Nat} {m m' : Int} {W : World} (h : CntC bl c m W) : CntC bl c' m' ((W.setCell ⟨bl, 0, none⟩ (dptr c')).setCell ⟨bl + 1, 0, none⟩ (.int .i64 m')) := by
  obtain ⟨h1, h2, h3, h4, h5⟩ := h
  refine ⟨?_, ?_, ?_, ?_, by simpa using h5⟩ <;> simp [go_sem, h1, h2, h3, h4]
def Knows (c : Option Nat) (m : Int) (M F : Blk) (W : World) : Prop := ∀ x, c = some x → F x ∧ ¬ M x ∧ ∃ q, DiscAt W x q ∧ m = ((secL q).length : Nat)
theorem Knows.none {m : Int} {M F : Blk} {W : World} : Knows none m M F W := fun x h => by cases h
theorem Knows.keep {c : Option Nat} {m : Int} {M F F' : Blk} {W W' : World} (h : Knows c m M F W) (hs : W.heap.size ≤ W'.heap.size) (hF : ∀ b, F b → F' b) (hb : ∀ b, F b ∧ ¬ M b → W'.heap[b]? = W.heap[b]?) : Knows c m M F' W' := fun x hx => by
  obtain ⟨h1, h2, q, h3, h4⟩ := h x hx
  exact ⟨hF x h1, h2, q, h3.block hs (hb x ⟨h1, h2⟩), h4⟩
abbrev cntV (bl : Nat) : Value := .func (.func 91) #[] #[.pointer (some ⟨bl, 0, none⟩), .pointer (some ⟨bl + 1, 0, none⟩)]
set_option maxRecDepth 100000 in
theorem Counter_any (w : World) : Calls Tryz.prog 52 #[] w fun e w' => e = .returned (.func (.func 91) #[] #[.pointer (some ⟨w.heap.size, 0, none⟩), .pointer (some ⟨w.heap.size + 1, 0, none⟩)]) ∧ w' = (w.alloc (.cells #[.pointer none] 88)).alloc (.cells #[.int .i64 0] 2) := by
  go_enter Tryz.func52, Tryz.ntmps52
  go_wp2
  go_ret
  exact ⟨rfl, rfl⟩
set_option maxRecDepth 100000 in
set_option maxHeartbeats 1600000 in
theorem Cnt_any (bl d : Nat) (q : Nat → Bool) (c : Option Nat) (m : Int) (W : World) (h : CntC bl c m W) (hk : ∀ x, c = some x → ∃ q, DiscAt W x q ∧ m = ((secL q).length : Nat)) (hd : DiscAt W d q) :
    Calls Tryz.prog 91 #[.pointer (some ⟨d, 0, none⟩), .pointer (some ⟨bl, 0, none⟩), .pointer (some ⟨bl + 1, 0, none⟩)] W fun e W' => e = .returned (.int .i64 ((secL q).length : Nat)) ∧ Eff (fun b => b = bl ∨ b = bl + 1) W W' ∧ CntC bl (some d) ((secL q).length : Nat) W' := by
  have cL := hid (DLenO_any (some d) q W hd)
  have hl := secL_len q
  have hu : ∀ q', DiscAt W d q' → (secL q').length = (secL q).length := fun q' h' => by
    have e : (List.range 86400).filter q' = (List.range 86400).filter q := List.filter_congr fun k hk => DiscAt.unique h' hd k (List.mem_range.1 hk)
    rw [secL, secL, sel, sel, e]
  by_cases hc : c = some d
  · subst hc
    obtain ⟨q', h1, rfl⟩ := hk d rfl
    have e := hu q' h1
    have hb := dNeq_run hd h1
    rw [show decide (d ≠ d) = false by simp] at hb
    have H := hid h
    rw [e] at H
    obtain ⟨c1, c2, f1, f2, -⟩ := h
    rw [e] at c2
    replace c1 : W.cell? ⟨bl, 0, none⟩ = some (.pointer (some ⟨d, 0, none⟩)) := c1
    generalize (secL q).length = L at *
    clear hd hu cL h1 e hk
    go_enter Tryz.func91, Tryz.ntmps91
    go_wp2
    go_ret
    exact ⟨rfl, Eff.refl _ _, H.out⟩
  · have hX := hid (h.set (c' := some d) (m' := ((secL q).length : Nat)))
    have hE : Hid (Eff (fun b => b = bl ∨ b = bl + 1) W ((W.setCell ⟨bl, 0, none⟩ (dptr (some d))).setCell ⟨bl + 1, 0, none⟩ (.int .i64 ((secL q).length : Nat)))) := ((Eff.refl _ W).set (.inl rfl) _ _).set (.inr rfl) _ _
    obtain ⟨c1, c2, f1, f2, -⟩ := h
    generalize (secL q).length = L at *
    have hLi : IntKind.i64.wrap (L : Int) = L := IntWalk.i64_in (L : Int) (by omega)
    clear hu
    cases c with
    | none =>
      clear hd hk
      replace c1 : W.cell? ⟨bl, 0, none⟩ = some (.pointer none) := c1
      go_enter Tryz.func91, Tryz.ntmps91
      go_wp2_with fail
      refine cL.out.mono ?_
      rintro e w1 ⟨rfl, rfl⟩
      go_wp2
      go_ret
      exact ⟨rfl, hE.out, hX.out⟩
    | some x =>
      have hx : x ≠ d := fun e => hc (by rw [e])
      have hx2 : d ≠ x := fun e => hx e.symm
      obtain ⟨q', h1, -⟩ := hk x rfl
      have hb := dNeq_run hd h1
      rw [decide_eq_true hx2] at hb
      clear h1 hd hk
      replace c1 : W.cell? ⟨bl, 0, none⟩ = some (.pointer (some ⟨x, 0, none⟩)) := c1
      go_enter Tryz.func91, Tryz.ntmps91
      go_wp2_with fail
      refine cL.out.mono ?_
      rintro e w1 ⟨rfl, rfl⟩
      go_wp2
      go_ret
      exact ⟨rfl, hE.out, hX.out⟩
theorem part_stop {cs : List Cl} {n u s at' : Int} {ok : Bool} (h : FirstOf (fun k => dayQ cs n k && decide (s ≤ (k : Int))) at' ok) (hs : ok = false ∨ u - 86400 * n < at') : remI cs n u s = [] := by
  obtain ⟨-, h2, h3, -⟩ := rem_first (u := u) h
  cases ok
  · exact h3 rfl
  · exact h2 rfl (by rcases hs with hs | hs; cases hs; omega)
theorem part_go {cs : List Cl} {n u s at' : Int} (h : FirstOf (fun k => dayQ cs n k && decide (s ≤ (k : Int))) at' true) (hs : at' ≤ u - 86400 * n) : (remI cs n u s).length = (remI cs n u (at' + 1)).length + 1 ∧ 0 ≤ at' ∧ at' < 86400 := by
  obtain ⟨h1, -, -, h4⟩ := rem_first (u := u) h
  obtain ⟨-, g1, g2, -⟩ := h4 rfl
  exact ⟨by rw [h1 rfl (by omega)]; rfl, g1, g2⟩
theorem rem_len (cs : List Cl) (n u s : Int) : (remI cs n u s).length ≤ 86400 := secL_len _
set_option maxRecDepth 100000 in
set_option maxHeartbeats 1600000 in
theorem Part_any (d : Nat) (cs : List Cl) (n F U : Int) (W : World) (n0 : 0 ≤ n) (n1 : n < 146097) (f0 : 0 ≤ F) (f1 : F ≤ 12622780799) (u0 : 0 ≤ U) (u1 : U ≤ 12622780799) (hT : Tab W) (hd : DiscAt W d (dayQ cs n)) :
    Calls Tryz.prog 54 #[.pointer (some ⟨d, 0, none⟩), .int .i64 (F - 86400 * n), .int .i64 (U - 86400 * n)] W fun e W' => e = .returned (.int .i64 ((dayI cs F U n).length : Nat)) ∧ W' = W := by
  have cN := hid (fun (s : Int) h1 h2 => DNextO_any (some d) (dayQ cs n) s W h1 h2 hT hd)
  have hlen : (dayI cs F U n).length = (remI cs n U (max 0 (F - 86400 * n))).length := by rw [dayI, List.length_map]
  rw [hlen]
  obtain ⟨L, hL⟩ : ∃ L, (remI cs n U (max 0 (F - 86400 * n))).length = L := ⟨_, rfl⟩
  have hLb : L ≤ 86400 := by rw [← hL]; exact rem_len _ _ _ _
  rw [hL]
  have HL := hid hL
  obtain ⟨f, hf⟩ : ∃ f, F - 86400 * n = f := ⟨_, rfl⟩
  obtain ⟨u, hu⟩ : ∃ u, U - 86400 * n = u := ⟨_, rfl⟩
  have hfb : -12622780800 ≤ f ∧ f ≤ 12622780799 := by omega
  have hub : -12622780800 ≤ u ∧ u ≤ 12622780799 := by omega
  have HU := hid hu
  have HF := hid hf
  rw [hf, hu]
  clear hd hT hlen hL hf hu
  have c1 := hid (fun (s : Int) (h : s = max 0 f) => (cN.out (max 0 f) (by omega) (by omega)))
  have c1' : Hid (∀ s, s = max 0 f → Calls Tryz.prog 50 #[.pointer (some ⟨d, 0, none⟩), .int .i64 s] W fun r w' => (∃ n1 ok, r = .returned (.tuple #[.int .i64 n1, .bool ok]) ∧ FirstOf (fun k => dayQ cs n k && decide (max 0 f ≤ (k : Int))) n1 ok) ∧ W = w') := by
    rintro s rfl; exact c1.out _ rfl
  clear c1
  have mid : ∀ (at' : Int) (ok : Bool), FirstOf (fun k => dayQ cs n k && decide (max 0 f ≤ (k : Int))) at' ok → Hid (FirstOf (fun k => dayQ cs n k && decide (max 0 f ≤ (k : Int))) at' ok) := fun _ _ h => h
  go_enter Tryz.func54, Tryz.ntmps54
  go_wp2_with fail
  all_goals
    refine (c1'.out _ (by omega)).mono ?_
    rintro e w1 ⟨⟨at0, ok0, rfl, hF0⟩, rfl⟩
    have hF0 := mid _ _ hF0
    go_wp2_with fail
    go_loopw [7, 8, 9] (fun mv av ov wr => ∃ (many : Nat) (s at' : Int) (ok : Bool), mv = .int .i64 many ∧ av = .int .i64 at' ∧ ov = .bool ok ∧ wr = W ∧ many ≤ 86400 ∧ (ok = true → 0 ≤ at' ∧ at' < 86400) ∧ Hid (many + (remI cs n U s).length = L ∧ FirstOf (fun k => dayQ cs n k && decide (s ≤ (k : Int))) at' ok)) (fun mv _ _ _ => L - (intOf mv).toNat)
    case atStart =>
      refine ⟨0, max 0 f, at0, ok0, rfl, rfl, rfl, rfl, by omega, fun h => ?_, ?_, hF0.out⟩
      · rcases hF0.out with ⟨-, k, rfl, hk, -⟩ | ⟨h2, -⟩
        · omega
        · rw [h] at h2; cases h2
      · have := HL.out; have h2 := HF.out; rw [h2] at this; omega
    case round =>
      obtain ⟨many, s, at', ok, rfl, rfl, rfl, rfl, hm, ha, hI⟩ := hrel
      cases ok
      · have hz : Hid (many = L) := by
          have := hI.out.1; rw [part_stop hI.out.2 (.inl rfl)] at this; exact this
        clear hI
        go_wp2
        go_ret
        exact ⟨by rw [hz.out]; rfl, rfl⟩
      · obtain ⟨a0, a1⟩ := ha rfl
        clear ha
        by_cases hu : at' ≤ u
        · have hg := part_go hI.out.2 (by have := HU.out; omega : at' ≤ U - 86400 * n)
          have h1 := hI.out.1
          have HG := hid (show many + 1 + (remI cs n U (at' + 1)).length = L by omega)
          have hm2 : many < L := by omega
          have q := hid (cN.out (at' + 1) (by omega) (by omega))
          clear hI hg h1
          go_wp2_with fail
          refine q.out.mono ?_
          rintro e w2 ⟨⟨at2, ok2, rfl, hF2⟩, rfl⟩
          have hF2 := hid hF2
          go_wp2
          refine ⟨⟨many + 1, at' + 1, at2, ok2, by go_num, by trivial, by trivial, by trivial, by omega, fun h => ?_, HG.out, hF2.out⟩, by simp [intOf]; omega⟩
          rcases hF2.out with ⟨-, k, rfl, hk, -⟩ | ⟨h2, -⟩
          · omega
          · rw [h] at h2; cases h2
        · have hz : Hid (many = L) := by
            have := hI.out.1; rw [part_stop hI.out.2 (.inr (by have := HU.out; omega))] at this; exact this
          clear hI
          go_wp2
          go_ret
          exact ⟨by rw [hz.out]; rfl, rfl⟩
end
section
open Go.RowKit

def noDefer (o : Oper) : Bool := match o.op with | .defer _ => false | _ => true
theorem noDefer_ne {o : Oper} (h : noDefer o = true) : ∀ c, o.op ≠ .defer c := by
  intro c e; rw [noDefer, e] at h; cases h
theorem operW {l n : Nat} {P : Program} {o : Oper} {a : Act} {w : World} {K : Act → World → Prop} {Q : Exit → Act → World → Prop} (hd : noDefer o = true) (hL : ¬ LetsOut Q) (h : o.wp P a w K Q) : o.wpIn (WF (some l)) n P a w K Q := by
  refine ⟨fun _ _ => trivial, ?_⟩
  have e2 : o.semAt (WF (some l)).round a.eval = execOp a.eval o := Oper.semAt_eq _ _ _ (noDefer_ne hd)
  rw [e2]
  unfold Oper.wp at h
  generalize (execOp a.eval o).run P w = r at *
  cases r with
  | ok x w' =>
    cases x <;> simp only [Oper.uponIn, Oper.upon] at h ⊢ <;>
      first
        | exact h
        | exact ⟨fun h => (by cases h), wf_calls.mpr h⟩
        | exact ⟨fun h => (by cases h), fun c cs _ => let ⟨v, w'', r, s⟩ := h c cs; ⟨v, w'', r, stepsIn_wide.mpr s⟩⟩
  | halt x w' => cases x <;> simp only [Oper.uponIn, Oper.upon] at h ⊢ <;> exact h
theorem opW {l n i : Nat} {P : Program} {ops : Array Oper} {K K' : Act → World → Prop} {Q : Exit → Act → World → Prop} (hd : ops.all noDefer = true) (hL : ¬ LetsOut Q) (hK : ∀ a w, K a w → K' a w) {a : Act} {w : World} (h : wpOp P ops Q i K a w) : wpOpIn (WF (some l)) n P ops Q i K' a w := by
  unfold wpOp at h
  unfold wpOpIn
  cases ho : ops[i]? with
  | none => simp only [ho] at h ⊢; exact hK _ _ h
  | some o =>
    simp only [ho] at h ⊢
    have hdo : noDefer o = true := by
      rw [Array.all_eq_true] at hd
      obtain ⟨hi, rfl⟩ := Array.getElem?_eq_some_iff.1 ho
      exact hd i hi
    split
    · rename_i hw
      rw [if_pos hw] at h
      rcases h with h | h
      · exact operW hdo hL (Oper.wp_mono hK h)
      · exact absurd h.2 hL
    · rename_i hw
      rw [if_neg hw] at h
      exact ⟨fun _ _ => trivial, hK _ _ h⟩
theorem anyW {l n : Nat} {P : Program} {md : Region.Mode} {ops : Array Oper} {Q : Exit → Act → World → Prop} (hd : ops.all noDefer = true) (hL : ¬ LetsOut Q) : ∀ (fuel : Nat) (listed : Array Bool) (a : Act) (w : World), wpAny P md ops Q fuel listed a w → wpAnyIn (WF (some l)) n P md ops Q fuel listed a w
  | 0, _, _, _, h => h
  | fuel + 1, listed, a, w, h => ⟨h.1, fun i hi => opW hd hL (fun a w => anyW hd hL fuel _ a w) (h.2 i hi)⟩
theorem regW {l n id : Nat} {P : Program} {ops : Array Oper} {S : World → Prop} {Q : Exit → Act → World → Prop} {a : Act} {w : World} (hm : P.follows .mixedOrders = true) (hd : ops.all noDefer = true) (hL : ¬ LetsOut Q) (hS : S w.drew)
    (h : S w.drew → wpAnyH P .any ops Q S ops.size (Array.replicate ops.size false) a w.drew) : (Code.region id ops true).wpIn (WF (some l)) n P Q a w :=
  wpIn_region_any hm (anyW hd hL _ _ _ _ (wpAny_of_held _ _ _ _ (h hS)))
end
end Go.Proofs.YtchceegpbfecaaaGreatDoor

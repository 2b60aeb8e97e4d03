/-
  The law of a range over a function whose yield takes any values, for a client that may ask what has turned.
  A call of a function value with two arguments.
-/
import Derived.Test.YtchceegpbfecaaaDoorRangeAll
namespace Go.Proofs.YtchceegpbfecaaaDoor
open Go.RowKit
set_option linter.unusedVariables false

/-- a client that may ask what has turned since the telling began -/
structure ClientV (P : Program) (y : Value) (xs : List (Array Value)) (J Jx : OwnP) (O0 : Nat → Prop) (W0 : World) : Prop where
  form : ∃ f fi cap, y = .func f fi cap
  stab : StabO J
  stabx : StabO Jx
  lt : LtO J
  ltx : LtO Jx
  call : ∀ k O W, (hk : k < xs.length) → J k O W → Grow O0 O W0 W → CallV P y xs[k] W fun e W' => ∃ O' : Nat → Prop, (∀ b, O b → O' b) ∧ (∀ b, O' b → O b ∨ W.heap.size ≤ b) ∧ Eff O W W' ∧
    ((e = .returned (.bool true) ∧ J (k + 1) O' W') ∨ (e = .returned (.bool false) ∧ Jx (k + 1) O' W'))
/-- what such a telling has done in the end -/
def ToldV (xs : List (Array Value)) (J Jx : OwnP) (O : Nat → Prop) (W : World) (W' : World) : Prop :=
  ∃ O' : Nat → Prop, (∀ b, O b → O' b) ∧ (∀ b, O' b → O b ∨ W.heap.size ≤ b) ∧ Eff O W W' ∧ (J xs.length O' W' ∨ ∃ k, 1 ≤ k ∧ k ≤ xs.length ∧ Jx k O' W')

/-- the loop's yield is a client of whatever tells xs -/
theorem loop_clientV {P : Program} {n : Nat} {fn : FuncId} {tmps : Array Value} {ps : Array Tmp} {assign body : Code} {D l : Nat} {Dk : Option Nat} (xs : List (Array Value)) (hps : ∀ x ∈ xs, x.size = ps.size)
    {I : OwnP} {Ix : Code → OwnP} (hI : StabO I) (hIx : ∀ c, StabO (Ix c)) (hIl : LtO I) (hIxl : ∀ c, LtO (Ix c)) (A : Nat → (Nat → Prop) → Act → World → Prop) (hA : ∀ l o k O a' W, (∃ r, W.heap[l]? = some (.loop r)) → ¬ O l → A k O a' W → A k O a' (W.putObj l o))
    (Ow O0 : Nat → Prop) (w W1 : World) (hwl : w.heap.size ≤ l) (hconv : ∀ O O1 W, (∀ b, O b ↔ O1 b ∨ b = l ∨ Dk = some b) → Grow O0 O W1 W → Grow Ow O1 w W)
    (hassign : ∀ k O W (K : Act → World → Prop) (hk : k < xs.length), I k O W → Grow Ow O w W → (∀ a' O' W', Grow O O' W W' → A k O' a' W' → K a' W') →
      assign.wpIn (WF (some l)) n P (Exit.then K (fun _ _ _ => False)) { tmps := (ps.zip xs[k]).foldl (fun t (p, v) => t.setIfInBounds p v) tmps, defers := [] } W)
    (hbody : ∀ k O a' W, (hk : k < xs.length) → Grow Ow O w W → (∃ r, W.heap[l]? = some (.loop r)) → ¬ O l → A k O a' W → body.wpIn (WF (some l)) n P (RPost I Ix k O W) a' W) :
    ClientV P (.func (.yield l) #[] #[]) xs (RJ (loopRec fn tmps ps assign body D .ready none) l Dk I) (fun k O W => ∃ c, RJ (loopRec fn tmps ps assign body D .done (some c)) l Dk (Ix c) k O W) O0 W1 where
  form := ⟨_, _, _, rfl⟩
  stab := RJ.stab hI
  stabx := fun k O W W' ⟨c, h⟩ hs hO => ⟨c, RJ.stab (hIx c) k O W W' h hs hO⟩
  lt := RJ.lt hIl
  ltx := fun k O W ⟨c, h⟩ => RJ.lt (hIxl c) k O W h
  call := by
    rintro k O W hk ⟨O1, hO, hnl, hD, hi, hl⟩ hG0
    have hG := hconv O O1 W hO hG0
    have hlt := heap_lt hl
    have hy := run_yield (P := P) (args := xs[k]) hl (hps _ (List.getElem_mem hk))
    refine .inr ⟨l, _, _, _, _, rfl, hy, fun m => roundIn_any (r := none) (m := n) (roundIn_of_wpIn trivial ?_)⟩
    clear hy
    refine hassign k O1 W _ hk hi hG ?_
    intro a' O2 Wa hg2 ha
    have hla := (hg2.eff.block l hlt hnl).trans hl
    have hDa : ∀ d, Dk = some d → Wa.heap[d]? = some (.deferred (some [])) := fun d hd => (hg2.eff.block d (heap_lt (hD d hd).2.2) (hD d hd).1).trans (hD d hd).2.2
    have hnew : ∀ b, b < W.heap.size → ¬ O1 b → ¬ O2 b := fun b hb hn h => by
      rcases hg2.new b h with h1 | h1
      · exact hn h1
      · omega
    have hnl2 := hnew l hlt hnl
    have hsz2 := hg2.eff.size
    refine ⟨_, run_beginRound hla rfl, ?_⟩
    obtain ⟨Wb, hWb⟩ : ∃ Wb, Wa.putObj l (.loop (loopRec fn tmps ps assign body D .busy none)) = Wb := ⟨_, rfl⟩
    have hWs : Wb.heap.size = Wa.heap.size := by rw [← hWb]; exact World.putObj_size
    have hWo : ∀ b, b ≠ l → Wb.heap[b]? = Wa.heap[b]? := fun b hb => by rw [← hWb]; exact World.putObj_heap_other hb
    have hWl : Wb.heap[l]? = some (.loop (loopRec fn tmps ps assign body D .busy none)) := by rw [← hWb]; exact World.putObj_heap_same (heap_lt hla)
    have hEb : Eff O W Wb := by rw [← hWb]; exact (hg2.eff.wide (fun b hb => (hO b).mpr (.inl hb))).putObj (.inl ((hO l).mpr (.inr (.inl rfl)))) _
    have hGa := hG.trans hg2
    have hb := hbody k O2 a' Wb hk ⟨hGa.sub, hGa.new, by rw [← hWb]; exact hGa.eff.putObj (.inr hwl) _⟩ ⟨_, hWl⟩ hnl2 (by rw [← hWb]; exact hA _ _ _ _ _ _ ⟨_, hla⟩ hnl2 ha)
    rw [hWb]
    refine wpIn_mono hb ?_
    have fin : ∀ (jump : Option Code) (O3 : Nat → Prop) (W3 : World), Grow O2 O3 Wb W3 → ∀ (X : OwnP), StabO X → X (k + 1) O3 W3 → ∃ O' : Nat → Prop, (∀ b, O b → O' b) ∧ (∀ b, O' b → O b ∨ W.heap.size ≤ b) ∧
        (Instr.endRound l jump).run P W3 = .ok (.bool jump.isNone) (W3.putObj l (.loop (loopRec fn tmps ps assign body D (if jump.isNone then .ready else .done) jump))) ∧ Eff O W (W3.putObj l (.loop (loopRec fn tmps ps assign body D (if jump.isNone then .ready else .done) jump))) ∧
        RJ (loopRec fn tmps ps assign body D (if jump.isNone then .ready else .done) jump) l Dk X (k + 1) O' (W3.putObj l (.loop (loopRec fn tmps ps assign body D (if jump.isNone then .ready else .done) jump))) := fun jump O3 W3 hg3 X hX hx => by
      have hl3 := (hg3.eff.block l (heap_lt hWl) hnl2).trans hWl
      have hnew3 : ∀ b, b < Wb.heap.size → ¬ O2 b → ¬ O3 b := fun b hb hn h => by
        rcases hg3.new b h with h1 | h1
        · exact hn h1
        · omega
      have hend := run_endRound (P := P) jump hl3
      refine ⟨fun b => O3 b ∨ b = l ∨ Dk = some b, fun b hb => ?_, fun b hb => ?_, ?_, ?_, O3, fun b => Iff.rfl, hnew3 l (heap_lt hWl) hnl2, fun d hd => ?_, ?_, ?_⟩
      · rcases (hO b).mp hb with h | h
        · exact .inl (hg3.sub b (hg2.sub b h))
        · exact .inr h
      · rcases hb with h | h
        · rcases hg3.new b h with h1 | h1
          · rcases hg2.new b h1 with h2 | h2
            · exact .inl ((hO b).mpr (.inl h2))
            · exact .inr h2
          · exact .inr (by omega)
        · exact .inl ((hO b).mpr (.inr h))
      · exact hend
      · refine Eff.putObj (hEb.trans (hg3.eff) fun b hb => ?_) (.inl ((hO l).mpr (.inr (.inl rfl)))) _
        rcases hg2.new b hb with h2 | h2
        · exact .inl ((hO b).mpr (.inl h2))
        · exact .inr h2
      · obtain ⟨d1, d2, d3⟩ := hD d hd
        have hd2 := hnew d (heap_lt d3) d1
        have hdb : d < Wb.heap.size := by have := heap_lt (hDa d hd); omega
        exact ⟨hnew3 d hdb hd2, d2, (World.putObj_heap_other d2).trans ((hg3.eff.block d hdb hd2).trans ((hWo d d2).trans (hDa d hd)))⟩
      · exact hX _ _ _ _ hx (by rw [World.putObj_size]; exact Nat.le_refl _) (fun b hb => World.putObj_heap_other (fun e => hnew3 l (heap_lt hWl) hnl2 (e ▸ hb)))
      · exact World.putObj_heap_same (heap_lt hl3)
    rintro e a3 W3 hp
    cases e with
    | normal =>
      obtain ⟨O3, hg3, hi3⟩ := hp
      obtain ⟨O', h1, h2, h3, h4, h5⟩ := fin none O3 W3 hg3 I hI hi3
      exact ⟨_, _, h3, O', h1, h2, h4, .inl ⟨rfl, h5⟩⟩
    | ret =>
      obtain ⟨O3, hg3, hi3⟩ := hp
      obtain ⟨O', h1, h2, h3, h4, h5⟩ := fin (some .ret) O3 W3 hg3 _ (hIx _) hi3
      exact ⟨_, _, h3, O', h1, h2, h4, .inr ⟨rfl, _, h5⟩⟩
    | exit id =>
      obtain ⟨O3, hg3, hi3⟩ := hp
      obtain ⟨O', h1, h2, h3, h4, h5⟩ := fin (some (.exit id)) O3 W3 hg3 _ (hIx _) hi3
      exact ⟨_, _, h3, O', h1, h2, h4, .inr ⟨rfl, _, h5⟩⟩
    | goto t =>
      obtain ⟨O3, hg3, hi3⟩ := hp
      obtain ⟨O', h1, h2, h3, h4, h5⟩ := fin (some (.goto t)) O3 W3 hg3 _ (hIx _) hi3
      exact ⟨_, _, h3, O', h1, h2, h4, .inr ⟨rfl, _, h5⟩⟩
    | panic ch => exact hp.elim
    | outgrown => exact hp.elim

/-- what a function with what it has captured tells, whoever is told, from world w on -/
def TellsV (P : Program) (gf : Nat) (lb : Array Value) (xs : List (Array Value)) (Ow : Nat → Prop) (w : World) : Prop :=
  ∀ (y : Value) (J Jx : OwnP) (O : Nat → Prop) (W : World), (∀ b, O b → Ow b ∨ w.heap.size ≤ b) → Below w.heap.size w W → ClientV P y xs J Jx O W → J 0 O W → Calls P gf (#[y] ++ lb) W fun e W' => (∃ v, e = .returned v) ∧ ToldV xs J Jx O W W'


/-- the loop, outside of every round -/
theorem range_outerV {P : Program} {n : Nat} {g : Operand} {ps : Array Tmp} {assign body : Code} {Q : Exit → Act → World → Prop} {a : Act} {w : World} {gf : Nat} {lb : Array Value}
    (hg : a.eval g = .func (.func gf) #[] lb) (eg : ∀ args w, (callFunc gf args).run P w = .ok (.enter gf args) w) (xs : List (Array Value)) (Ow : Nat → Prop) (hps : ∀ x ∈ xs, x.size = ps.size) (hseq : TellsV P gf lb xs Ow w)
    (I : OwnP) (Ix : Code → OwnP) (hI : StabO I) (hIx : ∀ c, StabO (Ix c)) (hIl : LtO I) (hIxl : ∀ c, LtO (Ix c)) (h0 : I 0 Ow w) (A : Nat → (Nat → Prop) → Act → World → Prop) (hA : ∀ l o k O a' W, (∃ r, W.heap[l]? = some (.loop r)) → ¬ O l → A k O a' W → A k O a' (W.putObj l o))
    (hassign : ∀ l k O W (K : Act → World → Prop) (hk : k < xs.length), I k O W → Grow Ow O w W → (∀ a' O' W', Grow O O' W W' → A k O' a' W' → K a' W') →
      assign.wpIn (WF (some l)) n P (Exit.then K (fun _ _ _ => False)) { tmps := (ps.zip xs[k]).foldl (fun t (p, v) => t.setIfInBounds p v) a.tmps, defers := [] } W)
    (hbody : ∀ l k O a' W, (hk : k < xs.length) → Grow Ow O w W → w.heap.size ≤ l → (∃ r, W.heap[l]? = some (.loop r)) → ¬ O l → A k O a' W → body.wpIn (WF (some l)) n P (RPost I Ix k O W) a' W)
    (hdone : ∀ O' W', Grow Ow O' w W' → I xs.length O' W' → W'.heap[w.heap.size]? = some (.deferred (some [])) → ¬ O' w.heap.size → Q .normal { a with defers := { target := .collected w.heap.size, args := #[] } :: a.defers } W')
    (hstop : ∀ c k O' W', 1 ≤ k → k ≤ xs.length → Grow Ow O' w W' → Ix c k O' W' → W'.heap[w.heap.size]? = some (.deferred (some [])) → ¬ O' w.heap.size →
      c.wpIn (WF none) n P Q { a with defers := { target := .collected w.heap.size, args := #[] } :: a.defers } W') :
    (Code.rangeFunc g ps assign body).wpIn (WF none) n P Q a w := by
  refine wpIn_rangeFunc ?_
  intro fn hfn
  obtain ⟨W1, hW1⟩ : ∃ W1, (w.alloc (.deferred (some []))).alloc (.loop (loopRec fn a.tmps ps assign body w.heap.size .ready none)) = W1 := ⟨_, rfl⟩
  have hL1 : W1.heap[w.heap.size + 1]? = some (.loop (loopRec fn a.tmps ps assign body w.heap.size .ready none)) := by
    rw [← hW1]; have := World.alloc_heap_new (w.alloc (.deferred (some []))) (.loop (loopRec fn a.tmps ps assign body w.heap.size .ready none)); rwa [World.size_alloc] at this
  have hB1 : Below w.heap.size w W1 := by rw [← hW1]; exact ((Below.refl _ w).alloc (Nat.le_refl _) _).alloc (by simp) _
  have hK1 : W1.heap[w.heap.size]? = some (.deferred (some [])) := by
    rw [← hW1]; exact (Below.heap_alloc _ _ _ (by simp)).trans (World.alloc_heap_new w _)
  have hlt := hIl 0 Ow w h0
  have hJ : RJ (loopRec fn a.tmps ps assign body w.heap.size .ready none) (w.heap.size + 1) (some w.heap.size) I 0 (fun b => Ow b ∨ b = w.heap.size + 1 ∨ some w.heap.size = some b) W1 :=
    ⟨Ow, fun b => Iff.rfl, fun h => by have := hlt _ h; omega, fun d hd => by cases hd; exact ⟨fun h => by have := hlt _ h; omega, by omega, hK1⟩, hI 0 Ow w W1 h0 hB1.size (fun b hb => hB1.block b (hlt b hb)), hL1⟩
  have hlc := heap_lt hL1
  have hC := loop_clientV (P := P) (n := n) (fn := fn) (tmps := a.tmps) (D := w.heap.size) (l := w.heap.size + 1) (Dk := some w.heap.size) xs hps hI hIx hIl hIxl A hA Ow (fun b => Ow b ∨ b = w.heap.size + 1 ∨ some w.heap.size = some b) w W1 (by omega) (fun O O1 W hO hG => ⟨fun b hb => by
      have hb2 := hlt b hb
      rcases (hO b).mp (hG.sub b (.inl hb)) with h | h | h
      · exact h
      · omega
      · cases h; omega, fun b hb => by
      rcases hG.new b ((hO b).mpr (.inl hb)) with (h | h | h) | h
      · exact .inl h
      · exact .inr (by omega)
      · cases h; exact .inr (by omega)
      · exact .inr (by have := hB1.size; omega), (Eff.of_below (O := Ow) hB1).trans hG.eff fun b hb => by
      rcases hb with h | h | h
      · exact .inl h
      · exact .inr (by omega)
      · cases h; exact .inr (by omega)⟩) (hassign (w.heap.size + 1)) (fun k O a' W hk hG => hbody (w.heap.size + 1) k O a' W hk hG (by omega))
  have hcall := hseq _ _ _ _ W1 (fun b hb => by rcases hb with h | h | h; exact .inl h; exact .inr (by omega); exact .inr (by cases h; omega)) hB1 hC hJ
  refine ⟨w.heap.size + 1, [{ target := .collected w.heap.size, args := #[] }], W1, { target := .fn (.func gf) lb, args := #[.func (.yield (w.heap.size + 1)) #[] #[]] }, W1, gf,
    #[.func (.yield (w.heap.size + 1)) #[] #[]] ++ lb, W1, ?_, ?_, fun _ _ => trivial, ?_, (fun h => nomatch h), ?_⟩
  · rw [← hW1]; exact run_enterLoop_outer _ _ _ _ _
  · simp only [resolve, hg]; simp [go_sem]
  · simp [invoke, go_sem, eg]
  · refine wf_calls.mpr (hcall.mono ?_)
    have back : ∀ (X : OwnP) (k : Nat) (O' : Nat → Prop) (W2 : World) (st : LoopState) (pe : Option Code), StabO X → st ≠ .busy → (∀ b, Ow b → O' b) → (∀ b, O' b → (Ow b ∨ b = w.heap.size + 1 ∨ some w.heap.size = some b) ∨ W1.heap.size ≤ b) →
        Eff (fun b => Ow b ∨ b = w.heap.size + 1 ∨ some w.heap.size = some b) W1 W2 → RJ (loopRec fn a.tmps ps assign body w.heap.size st pe) (w.heap.size + 1) (some w.heap.size) X k O' W2 →
        (Instr.endLoop (w.heap.size + 1)).run P W2 = .ok pe (W2.putObj (w.heap.size + 1) (.loop (loopRec fn a.tmps ps assign body w.heap.size .exhausted pe))) ∧ ∃ O2, Grow Ow O2 w (W2.putObj (w.heap.size + 1) (.loop (loopRec fn a.tmps ps assign body w.heap.size .exhausted pe))) ∧ X k O2 (W2.putObj (w.heap.size + 1) (.loop (loopRec fn a.tmps ps assign body w.heap.size .exhausted pe))) ∧
          (W2.putObj (w.heap.size + 1) (.loop (loopRec fn a.tmps ps assign body w.heap.size .exhausted pe))).heap[w.heap.size]? = some (.deferred (some [])) ∧ ¬ O2 w.heap.size := by
      rintro X k O' W2 st pe hX hst hsub hnew hE ⟨O1, hO, hnl, hD, hi, hl⟩
      have hr := run_endLoop (P := P) hl hst
      refine ⟨hr, O1, ⟨fun b hb => ?_, fun b hb => ?_, ?_⟩, hX _ _ _ _ hi (by rw [World.putObj_size]; exact Nat.le_refl _) (fun b hb => World.putObj_heap_other (fun e => hnl (e ▸ hb))), (World.putObj_heap_other (by omega)).trans (hD _ rfl).2.2, (hD _ rfl).1⟩
      · have hb2 := hlt b hb
        rcases (hO b).mp (hsub b hb) with h | h | h
        · exact h
        · omega
        · cases h; omega
      · rcases hnew b ((hO b).mpr (.inl hb)) with (h | h | h) | h
        · exact .inl h
        · exact .inr (by omega)
        · cases h; exact .inr (by omega)
        · exact .inr (by have := hB1.size; omega)
      · refine Eff.putObj ((Eff.of_below (O := Ow) hB1).trans hE fun b hb => ?_) (.inr (by omega)) _
        rcases hb with h | h | h
        · exact .inl h
        · exact .inr (by omega)
        · cases h; exact .inr (by omega)
    rintro e W2 ⟨⟨v, rfl⟩, O', hsub, hnew, hE, hend⟩
    rcases hend with hj | ⟨k, hk1, hk2, c, hj⟩
    · obtain ⟨h1, O2, h2, h3, h4, h5⟩ := back I xs.length O' W2 .ready none hI (by simp) (fun b hb => hsub b (.inl hb)) hnew hE hj
      exact ⟨none, _, h1, hdone O2 _ h2 h3 h4 h5⟩
    · obtain ⟨h1, O2, h2, h3, h4, h5⟩ := back (Ix c) k O' W2 .done (some c) (hIx c) (by simp) (fun b hb => hsub b (.inl hb)) hnew hE hj
      exact ⟨some c, _, h1, hstop c k O2 _ hk1 hk2 h2 h3 h4 h5⟩


/-- the loop, in a round of loop l₀ -/
theorem range_innerV {P : Program} {n : Nat} {g : Operand} {ps : Array Tmp} {assign body : Code} {Q : Exit → Act → World → Prop} {a : Act} {w : World} {gf : Nat} {lb : Array Value} {l₀ : Nat}
    (hl₀ : ∃ r₀, w.heap[l₀]? = some (.loop r₀)) (hg : a.eval g = .func (.func gf) #[] lb) (eg : ∀ args w, (callFunc gf args).run P w = .ok (.enter gf args) w) (xs : List (Array Value)) (Ow : Nat → Prop) (hps : ∀ x ∈ xs, x.size = ps.size) (hseq : TellsV P gf lb xs Ow w)
    (I : OwnP) (Ix : Code → OwnP) (hI : StabO I) (hIx : ∀ c, StabO (Ix c)) (hIl : LtO I) (hIxl : ∀ c, LtO (Ix c)) (h0 : I 0 Ow w) (A : Nat → (Nat → Prop) → Act → World → Prop) (hA : ∀ l o k O a' W, (∃ r, W.heap[l]? = some (.loop r)) → ¬ O l → A k O a' W → A k O a' (W.putObj l o))
    (hassign : ∀ l k O W (K : Act → World → Prop) (hk : k < xs.length), I k O W → Grow Ow O w W → (∀ a' O' W', Grow O O' W W' → A k O' a' W' → K a' W') →
      assign.wpIn (WF (some l)) n P (Exit.then K (fun _ _ _ => False)) { tmps := (ps.zip xs[k]).foldl (fun t (p, v) => t.setIfInBounds p v) a.tmps, defers := [] } W)
    (hbody : ∀ l k O a' W, (hk : k < xs.length) → Grow Ow O w W → w.heap.size ≤ l → (∃ r, W.heap[l]? = some (.loop r)) → ¬ O l → A k O a' W → body.wpIn (WF (some l)) n P (RPost I Ix k O W) a' W)
    (hdone : ∀ O' W', Grow Ow O' w W' → I xs.length O' W' → Q .normal a W')
    (hstop : ∀ c k O' W', 1 ≤ k → k ≤ xs.length → Grow Ow O' w W' → Ix c k O' W' → c.wpIn (WF (some l₀)) n P Q a W') :
    (Code.rangeFunc g ps assign body).wpIn (WF (some l₀)) n P Q a w := by
  refine wpIn_rangeFunc ?_
  intro fn hfn
  obtain ⟨r₀, hr₀⟩ := hl₀
  obtain ⟨W1, hW1⟩ : ∃ W1, w.alloc (.loop (loopRec fn a.tmps ps assign body r₀.defers .ready none)) = W1 := ⟨_, rfl⟩
  have hL1 : W1.heap[w.heap.size]? = some (.loop (loopRec fn a.tmps ps assign body r₀.defers .ready none)) := by rw [← hW1]; exact World.alloc_heap_new w _
  have hB1 : Below w.heap.size w W1 := by rw [← hW1]; exact (Below.refl _ w).alloc (Nat.le_refl _) _
  have hlt := hIl 0 Ow w h0
  have hJ : RJ (loopRec fn a.tmps ps assign body r₀.defers .ready none) w.heap.size none I 0 (fun b => Ow b ∨ b = w.heap.size ∨ none = some b) W1 :=
    ⟨Ow, fun b => Iff.rfl, fun h => by have := hlt _ h; omega, fun d hd => (by cases hd), hI 0 Ow w W1 h0 hB1.size (fun b hb => hB1.block b (hlt b hb)), hL1⟩
  have hlc := heap_lt hL1
  have hC := loop_clientV (P := P) (n := n) (fn := fn) (tmps := a.tmps) (D := r₀.defers) (l := w.heap.size) (Dk := none) xs hps hI hIx hIl hIxl A hA Ow (fun b => Ow b ∨ b = w.heap.size ∨ none = some b) w W1 (Nat.le_refl _) (fun O O1 W hO hG => ⟨fun b hb => by
      have hb2 := hlt b hb
      rcases (hO b).mp (hG.sub b (.inl hb)) with h | h | h
      · exact h
      · omega
      · exact absurd h (by simp), fun b hb => by
      rcases hG.new b ((hO b).mpr (.inl hb)) with (h | h | h) | h
      · exact .inl h
      · exact .inr (by omega)
      · cases h
      · exact .inr (by have := hB1.size; omega), (Eff.of_below (O := Ow) hB1).trans hG.eff fun b hb => by
      rcases hb with h | h | h
      · exact .inl h
      · exact .inr (by omega)
      · exact absurd h (by simp)⟩) (hassign w.heap.size) (fun k O a' W hk hG => hbody w.heap.size k O a' W hk hG (Nat.le_refl _))
  have hcall := hseq _ _ _ _ W1 (fun b hb => by rcases hb with h | h | h; exact .inl h; exact .inr (by omega); cases h) hB1 hC hJ
  refine ⟨w.heap.size, [], W1, { target := .fn (.func gf) lb, args := #[.func (.yield w.heap.size) #[] #[]] }, W1, gf,
    #[.func (.yield w.heap.size) #[] #[]] ++ lb, W1, ?_, ?_, fun _ _ => trivial, ?_, (fun h => nomatch h), ?_⟩
  · rw [← hW1]; exact run_enterLoop_inner hr₀ _ _ _ _ _
  · simp only [resolve, hg]; simp [go_sem]
  · simp [invoke, go_sem, eg]
  · refine wf_calls.mpr (hcall.mono ?_)
    have back : ∀ (X : OwnP) (k : Nat) (O' : Nat → Prop) (W2 : World) (st : LoopState) (pe : Option Code), StabO X → st ≠ .busy → (∀ b, Ow b → O' b) → (∀ b, O' b → (Ow b ∨ b = w.heap.size ∨ none = some b) ∨ W1.heap.size ≤ b) →
        Eff (fun b => Ow b ∨ b = w.heap.size ∨ none = some b) W1 W2 → RJ (loopRec fn a.tmps ps assign body r₀.defers st pe) w.heap.size none X k O' W2 →
        (Instr.endLoop w.heap.size).run P W2 = .ok pe (W2.putObj w.heap.size (.loop (loopRec fn a.tmps ps assign body r₀.defers .exhausted pe))) ∧ ∃ O2, Grow Ow O2 w (W2.putObj w.heap.size (.loop (loopRec fn a.tmps ps assign body r₀.defers .exhausted pe))) ∧ X k O2 (W2.putObj w.heap.size (.loop (loopRec fn a.tmps ps assign body r₀.defers .exhausted pe))) := by
      rintro X k O' W2 st pe hX hst hsub hnew hE ⟨O1, hO, hnl, hD, hi, hl⟩
      have hr := run_endLoop (P := P) hl hst
      refine ⟨hr, O1, ⟨fun b hb => ?_, fun b hb => ?_, ?_⟩, hX _ _ _ _ hi (by rw [World.putObj_size]; exact Nat.le_refl _) (fun b hb => World.putObj_heap_other (fun e => hnl (e ▸ hb)))⟩
      · have hb2 := hlt b hb
        rcases (hO b).mp (hsub b hb) with h | h | h
        · exact h
        · omega
        · cases h
      · rcases hnew b ((hO b).mpr (.inl hb)) with (h | h | h) | h
        · exact .inl h
        · exact .inr (by omega)
        · cases h
        · exact .inr (by have := hB1.size; omega)
      · refine Eff.putObj ((Eff.of_below (O := Ow) hB1).trans hE fun b hb => ?_) (.inr (by omega)) _
        rcases hb with h | h | h
        · exact .inl h
        · exact .inr (by omega)
        · cases h
    rintro e W2 ⟨⟨v, rfl⟩, O', hsub, hnew, hE, hend⟩
    rcases hend with hj | ⟨k, hk1, hk2, c, hj⟩
    · obtain ⟨h1, O2, h2, h3⟩ := back I xs.length O' W2 .ready none hI (by simp) (fun b hb => hsub b (.inl hb)) hnew hE hj
      exact ⟨none, _, h1, hdone O2 _ h2 h3⟩
    · obtain ⟨h1, O2, h2, h3⟩ := back (Ix c) k O' W2 .done (some c) (hIx c) (by simp) (fun b hb => hsub b (.inl hb)) hnew hE hj
      exact ⟨some c, _, h1, hstop c k O2 _ hk1 hk2 h2 h3⟩
theorem callv2 {r : Option Nat} {n : Nat} {P : Program} {ops : Array Oper} {rest : List Oper} {o : Oper} {a : Act} {Q : Exit → Act → World → Prop} {W : World} (s x z : Operand) (t t2 : TypeId)
    (hgd : o.guard = none) (ho : o.op = .call { callee := .value s, args := #[x, z], argTypes := #[t, t2] }) {y u v : Value} (hs : a.eval s = y) (hx : a.eval x = u) (hz : a.eval z = v) {R : Ending → World → Prop}
    (h : CallV P y #[u, v] W R) (hK : ∀ e W', R e W' → ∃ v, e = .returned v ∧ wpListIn (WF r) n P ops Q rest (a.put o.dst v) W') :
    wpListIn (WF r) n P ops Q (o :: rest) a W := by
  refine wpListIn_plain hgd fun K hK' => ?_
  unfold Oper.wpIn
  refine ⟨fun _ _ => trivial, ?_⟩
  rw [Oper.semAt_plain (WF r) _ _ (by rw [ho]; intro c hc; cases hc)]
  rcases h with ⟨f, cap, rfl, he, hc⟩ | ⟨l, fn, tmps, assign, body, rfl, hy, hc⟩
  · simp [execOp, ho, resolve, invoke, hs, hx, hz, he, Deferred.ofValue]
    rw [Oper.uponIn_enter]
    refine ⟨fun h => (by cases h), wf_calls.mpr ((show Calls P f (#[u, v] ++ cap) W R from hc).mono fun e w' hr => ?_)⟩
    obtain ⟨v, rfl, hw⟩ := hK e w' hr
    exact hK' _ _ hw
  · simp [execOp, ho, resolve, invoke, hs, hx, hz, hy, Deferred.ofValue]
    rw [Oper.uponIn_round]
    refine ⟨fun h => (by cases h), RoundIn.mono (hc _) fun e w' hr => ?_⟩
    obtain ⟨v, rfl, hw⟩ := hK e w' hr
    exact hK' _ _ hw

end Go.Proofs.YtchceegpbfecaaaDoor

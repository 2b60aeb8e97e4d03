/-
  What roll.All and roll.Back tell, and of which blocks they are good.
  roll.All's function, walked: it tells the days of a set, each with its disc.
-/
import Derived.Test.YtcbanlgnanihhaaGreatDoorQ35b629
import Derived.Test.YtcbanlgnanihhaaGreatDoorQ686f16
namespace Go.Proofs.YtcbanlgnanihhaaGreatDoor
open Go.RowKit Go.Maps
set_option linter.unusedVariables false

theorem shS_put {W : World} {b l : Nat} {s : Nat → Int} {o : Obj} (h : ShS W b s) (hr : ∃ r, W.heap[l]? = some (.loop r)) : ShS (W.putObj l o) b s := by
  obtain ⟨h0, h1, h2, h3, h4, h5, h6, h7, h8, h9⟩ := h
  exact ⟨putObj_cell hr h0, putObj_cell hr h1, putObj_cell hr h2, putObj_cell hr h3, putObj_cell hr h4, putObj_cell hr h5, putObj_cell hr h6, putObj_cell hr h7, putObj_cell hr h8, putObj_cell hr h9⟩
/-- the days of a set, of some days -/
def dayS (cs : List Cl) (l : List Int) : List Int := l.filter fun n => anyQ (dayQ cs n)
def cntA (cs : List Cl) (l : List Int) (k : Nat) : Nat := (dayS cs (l.take k)).length
theorem cntA_zero (cs : List Cl) (l : List Int) : cntA cs l 0 = 0 := rfl
theorem cntA_all (cs : List Cl) (l : List Int) : cntA cs l l.length = (dayS cs l).length := by rw [cntA, List.take_length]
theorem cntA_snoc {cs : List Cl} {l : List Int} {k : Nat} {n : Int} (h : l[k]? = some n) : cntA cs l (k + 1) = cntA cs l k + if anyQ (dayQ cs n) then 1 else 0 := by
  obtain ⟨hk, rfl⟩ := List.getElem?_eq_some_iff.1 h
  rw [cntA, take_snoc l k hk, dayS, List.filter_append, List.length_append, cntA, dayS]
  cases hq : anyQ (dayQ cs l[k]) <;> simp [hq]
theorem cntA_at {cs : List Cl} {l : List Int} {k : Nat} {n : Int} (h : l[k]? = some n) (hq : anyQ (dayQ cs n) = true) : (dayS cs l)[cntA cs l k]? = some n := by
  obtain ⟨hk, rfl⟩ := List.getElem?_eq_some_iff.1 h
  have e : dayS cs l = dayS cs (l.take k) ++ (l[k] :: dayS cs (l.drop (k + 1))) := by
    rw [dayS, dayS, dayS]
    conv => lhs; rw [← List.take_append_drop k l, List.drop_eq_getElem_cons hk]
    rw [List.filter_append, List.filter_cons, if_pos hq]
  rw [e, cntA, List.getElem?_append_right (Nat.le_refl _), Nat.sub_self]; rfl
/-- what is told of a day: its shape and its disc -/
def VRoll (cs : List Cl) (M : Blk) (xs : List Int) (k : Nat) (vs : Array Value) (F : Blk) (W : World) : Prop :=
  ∃ n d, xs[k]? = some n ∧ 0 ≤ n ∧ n < 146097 ∧ vs = #[shN n, .pointer (some ⟨d, 0, none⟩)] ∧ DiF W F M d (dayQ cs n) ∧ (Tab W ∧ F 0 ∧ ¬ M 0) ∧ ∀ b, F b → b < W.heap.size
/-- the teller's state: the roll, and the boxes of what it is asked -/
structure HA (cs : List Cl) (br bk : Nat) (bps : List Nat) (x1 x2 x3 : Nat) (f t : Int) (Inv : (Nat → Bool) → Nat → Prop) (F : Blk) (W : World) : Prop where
  roll : ∃ ws m, RollS W cs br bk bps F ws m ∧ Inv ws m
  inF : F x1 ∧ F x2 ∧ F x3
  out : ¬ RM br bk bps x1 ∧ ¬ RM br bk bps x2 ∧ ¬ RM br bk bps x3
  c1 : W.cell? ⟨x1, 0, none⟩ = some (.int .i64 f)
  c2 : W.cell? ⟨x2, 0, none⟩ = some (.int .i64 t)
  c3 : W.cell? ⟨x3, 0, none⟩ = some (.pointer (some ⟨br, 0, none⟩))
section
variable {cs : List Cl} {br bk : Nat} {bps : List Nat} {x1 x2 x3 : Nat} {f t : Int} {Inv Inv' : (Nat → Bool) → Nat → Prop} {F F' : Blk} {W W' : World}
theorem HA.keep (h : HA cs br bk bps x1 x2 x3 f t Inv F W) (hs : W.heap.size ≤ W'.heap.size) (hb : ∀ b, F b → W'.heap[b]? = W.heap[b]?) : HA cs br bk bps x1 x2 x3 f t Inv F W' := by
  obtain ⟨ws, m, h1, h2⟩ := h.roll
  have c : ∀ b, F b → W'.cell? ⟨b, 0, none⟩ = W.cell? ⟨b, 0, none⟩ := fun b hF => World.cell?_of_block (w := W) (a := ⟨b, 0, none⟩) (hb b hF)
  exact ⟨⟨ws, m, h1.keep hs hb, h2⟩, h.inF, h.out, (c _ h.inF.1).trans h.c1, (c _ h.inF.2.1).trans h.c2, (c _ h.inF.2.2).trans h.c3⟩
theorem HA.lt (h : HA cs br bk bps x1 x2 x3 f t Inv F W) : ∀ b, F b → b < W.heap.size := by
  obtain ⟨ws, m, h1, h2⟩ := h.roll; exact h1.x.lt
theorem HA.sub (h : HA cs br bk bps x1 x2 x3 f t Inv F W) : ∀ b, RM br bk bps b → F b := by
  obtain ⟨ws, m, h1, h2⟩ := h.roll; exact h1.x.sub
theorem HA.host : HostOk (HA cs br bk bps x1 x2 x3 f t Inv) (RM br bk bps) := ⟨fun F W W' h hs hb => h.keep hs hb, fun F W h => h.lt, fun F W h => h.sub⟩
theorem HA.hostE {I : Nat → (Nat → Bool) → Nat → Prop} : HostOk (fun F W => ∃ j, HA cs br bk bps x1 x2 x3 f t (I j) F W) (RM br bk bps) := ⟨fun F W W' ⟨j, h⟩ hs hb => ⟨j, h.keep hs hb⟩, fun F W ⟨j, h⟩ => h.lt, fun F W ⟨j, h⟩ => h.sub⟩
/-- a day is asked for -/
theorem HA.step {ws' : Nat → Bool} {m' : Nat} (h : HA cs br bk bps x1 x2 x3 f t Inv F W) (hR : RollS W' cs br bk bps F' ws' m') (hF : ∀ b, F b → F' b) (hE : Eff (RM br bk bps) W W') (hI : Inv' ws' m') : HA cs br bk bps x1 x2 x3 f t Inv' F' W' := by
  have hlt := h.lt
  have c : ∀ b, F b → ¬ RM br bk bps b → W'.cell? ⟨b, 0, none⟩ = W.cell? ⟨b, 0, none⟩ := fun b hF hn => hE.cell (p := ⟨b, 0, none⟩) (hlt b hF) hn
  exact ⟨⟨ws', m', hR, hI⟩, ⟨hF _ h.inF.1, hF _ h.inF.2.1, hF _ h.inF.2.2⟩, h.out, (c _ h.inF.1 h.out.1).trans h.c1, (c _ h.inF.2.1 h.out.2.1).trans h.c2, (c _ h.inF.2.2 h.out.2.2).trans h.c3⟩
theorem HA.weak (h : HA cs br bk bps x1 x2 x3 f t Inv F W) (hI : ∀ ws m, Inv ws m → Inv' ws m) : HA cs br bk bps x1 x2 x3 f t Inv' F W := by
  obtain ⟨ws, m, h1, h2⟩ := h.roll
  exact ⟨⟨ws, m, h1, hI _ _ h2⟩, h.inF, h.out, h.c1, h.c2, h.c3⟩
end
/-- on the way: the client's blocks and the teller's, and what R tells of them -/
def IG (M O F : Blk) (W : World) (R : Blk → Blk → World → Prop) (O2 : Blk) (W' : World) : Prop :=
  ∃ O1 F1 : Blk, (∀ b, O2 b ↔ O1 b ∨ F1 b) ∧ (∀ b, F1 b → ¬ O1 b) ∧ R O1 F1 W' ∧ (∀ b, O b → O1 b) ∧ (∀ b, O1 b → O b ∨ W.heap.size ≤ b) ∧ (∀ b, F b → F1 b) ∧ (∀ b, F1 b → F b ∨ W.heap.size ≤ b) ∧ (∀ b, F b → ¬ M b → W'.heap[b]? = W.heap[b]?)
section
variable {M O F : Blk} {W W1 W' : World} {R R' : Blk → Blk → World → Prop} {O2 : Blk}
theorem IG.keep (h : IG M O F W R O2 W1) (hs : W1.heap.size ≤ W'.heap.size) (hb : ∀ b, O2 b → W'.heap[b]? = W1.heap[b]?)
    (hR : ∀ O1 F1, R O1 F1 W1 → W1.heap.size ≤ W'.heap.size → (∀ b, O1 b ∨ F1 b → W'.heap[b]? = W1.heap[b]?) → R O1 F1 W') : IG M O F W R O2 W' := by
  obtain ⟨O1, F1, e, h1, h2, h3, h4, h5, h6, h7⟩ := h
  exact ⟨O1, F1, e, h1, hR O1 F1 h2 hs (fun b g => hb b ((e b).2 g)), h3, h4, h5, h6, fun b g n => (hb b ((e b).2 (.inr (h5 b g)))).trans (h7 b g n)⟩
theorem IG.lt (h : IG M O F W R O2 W1) (hR : ∀ O1 F1, R O1 F1 W1 → ∀ b, O1 b ∨ F1 b → b < W1.heap.size) : ∀ b, O2 b → b < W1.heap.size := by
  obtain ⟨O1, F1, e, h1, h2, h3⟩ := h
  exact fun b hb => hR O1 F1 h2 b ((e b).1 hb)
theorem IG.growM {O1 : Blk} (hM : ∀ b, M b → F b) (hlt : ∀ b, F b → b < W.heap.size) (h3 : ∀ b, O b → O1 b) (h4 : ∀ b, O1 b → O b ∨ W.heap.size ≤ b) (h7 : ∀ b, F b → ¬ M b → W'.heap[b]? = W.heap[b]?) (hE : Eff (fun b => O b ∨ F b) W W') : GrowM M O O1 W W' :=
  ⟨h3, h4, ⟨hE.os, hE.tape, hE.output, hE.size, fun b hb hn => by
    by_cases hF : F b
    · exact h7 b hF (fun h => hn (.inr h))
    · exact hE.block b hb (fun h => h.elim (fun h => hn (.inl h)) hF)⟩⟩
end
/-- the teller has turned blocks of its own -/
theorem ig_step {M F O1 F1 F2 : Blk} {W W6 w7 : World} (h1 : ∀ b, F1 b → ¬ O1 b) (h5 : ∀ b, F b → F1 b) (h6 : ∀ b, F1 b → F b ∨ W.heap.size ≤ b) (h7 : ∀ b, F b → ¬ M b → W6.heap[b]? = W.heap[b]?)
    (hlt1 : ∀ b, O1 b → b < W6.heap.size) (hltF : ∀ b, F1 b → b < W6.heap.size) (hM : ∀ b, M b → F1 b) (hG : GrF F1 F2 W6) (hE : Eff M W6 w7) (hs : W.heap.size ≤ W6.heap.size) :
    (∀ b, F2 b → ¬ O1 b) ∧ (∀ b, F b → F2 b) ∧ (∀ b, F2 b → F b ∨ W.heap.size ≤ b) ∧ (∀ b, F b → ¬ M b → w7.heap[b]? = W.heap[b]?) ∧ (∀ b, O1 b ∨ (F1 b ∧ ¬ M b) → w7.heap[b]? = W6.heap[b]?) ∧
    ∀ O6 : Blk, (∀ b, O6 b ↔ O1 b ∨ F1 b) → Grow O6 (fun b => O1 b ∨ F2 b) W6 w7 := by
  refine ⟨fun b hb ho => ?_, fun b hb => hG.sub b (h5 b hb), fun b hb => ?_, fun b hb hn => (hE.block b (hltF b (h5 b hb)) hn).trans (h7 b hb hn), fun b hb => ?_, fun O6 e => ⟨fun b hb => ((e b).1 hb).imp id (hG.sub b), fun b hb => ?_, hE.wide (fun b hb => (e b).2 (.inr (hM b hb)))⟩⟩
  · rcases hG.new b hb with h | h
    · exact h1 b h ho
    · have := hlt1 b ho; omega
  · rcases hG.new b hb with h | h
    · exact h6 b h
    · exact .inr (by omega)
  · rcases hb with h | h
    · exact hE.block b (hlt1 b h) (fun hm => h1 b (hM b hm) h)
    · exact hE.block b (hltF b h.1) h.2
  · rcases hb with h | h
    · exact .inl ((e b).2 (.inl h))
    · exact (hG.new b h).imp (fun h => (e b).2 (.inr h)) id
/-- the client has turned blocks of its own -/
theorem ig_yield {M O F O1 O3 F2 : Blk} {W w7 W8 : World} (h1 : ∀ b, F2 b → ¬ O1 b) (h3 : ∀ b, O b → O1 b) (h4 : ∀ b, O1 b → O b ∨ W.heap.size ≤ b) (h5 : ∀ b, F b → F2 b) (h7 : ∀ b, F b → ¬ M b → w7.heap[b]? = W.heap[b]?)
    (hltF : ∀ b, F2 b → b < w7.heap.size) (x1 : ∀ b, O1 b → O3 b) (x2 : ∀ b, O3 b → O1 b ∨ w7.heap.size ≤ b) (x3 : Eff O1 w7 W8) (hs : W.heap.size ≤ w7.heap.size) :
    (∀ b, F2 b → ¬ O3 b) ∧ (∀ b, O b → O3 b) ∧ (∀ b, O3 b → O b ∨ W.heap.size ≤ b) ∧ (∀ b, F b → ¬ M b → W8.heap[b]? = W.heap[b]?) ∧ (∀ b, F2 b → W8.heap[b]? = w7.heap[b]?) ∧ Grow (fun b => O1 b ∨ F2 b) (fun b => O3 b ∨ F2 b) w7 W8 := by
  have keep : ∀ b, F2 b → W8.heap[b]? = w7.heap[b]? := fun b hb => x3.block b (hltF b hb) (h1 b hb)
  refine ⟨fun b hb ho => ?_, fun b hb => x1 b (h3 b hb), fun b hb => ?_, fun b hb hn => (keep b (h5 b hb)).trans (h7 b hb hn), keep, ⟨fun b hb => hb.imp (x1 b) id, fun b hb => ?_, x3.wide (fun b hb => .inl hb)⟩⟩
  · rcases x2 b ho with h | h
    · exact h1 b hb h
    · have := hltF b hb; omega
  · rcases x2 b hb with h | h
    · exact h4 b h
    · exact .inr (by omega)
  · rcases hb with h | h
    · exact (x2 b h).imp .inl id
    · exact .inl (.inr h)
/-- the disc that At hands back, as a disc or none -/
theorem day_disc {W : World} {cs : List Cl} {n : Int} {d : Option Nat} {F M : Blk} (h8 : cs.length ≤ 8) (h0 : 0 ≤ n) (h1 : n < 146097) (hn : d = none → actM cs n = 0) (hs : ∀ b, d = some b → DiF W F M b (dayQ cs n)) : DiscO W d (dayQ cs n) := by
  cases d with
  | none => exact fun k hk => day_none h8 h0 h1 (hn rfl) hk
  | some b => exact (hs b rfl).2.2
theorem shS_blk {W W' : World} {b : Nat} {s : Nat → Int} (h : ShS W b s) (hb : W'.heap[b]? = W.heap[b]?) : ShS W' b s := by
  have c : ∀ i, W'.cell? ⟨b, i, none⟩ = W.cell? ⟨b, i, none⟩ := fun i => World.cell?_of_block (w := W) (a := ⟨b, i, none⟩) hb
  obtain ⟨h0, h1, h2, h3, h4, h5, h6, h7, h8, h9⟩ := h
  exact ⟨(c _).trans h0, (c _).trans h1, (c _).trans h2, (c _).trans h3, (c _).trans h4, (c _).trans h5, (c _).trans h6, (c _).trans h7, (c _).trans h8, (c _).trans h9⟩
/-- a guarded call of a function value with two arguments, whose guard holds -/
theorem callv2w {r : Option Nat} {n : Nat} {P : Program} {ops : Array Oper} {rest : List Oper} {o : Oper} {a : Act} {Q : Exit → Act → World → Prop} {W : World} (s x z : Operand) (t t2 : TypeId)
    (hw : Region.wanted o (yielded ops a.tmps) = true) (ho : o.op = .call { callee := .value s, args := #[x, z], argTypes := #[t, t2] }) {y u v : Value} (hs : a.eval s = y) (hx : a.eval x = u) (hz : a.eval z = v) {R : Ending → World → Prop}
    (h : CallV P y #[u, v] W R) (hK : ∀ e W', R e W' → ∃ v, e = .returned v ∧ wpListIn (WF r) n P ops Q rest (a.put o.dst v) W') :
    wpListIn (WF r) n P ops Q (o :: rest) a W := by
  refine wpListIn_step fun K hK' => ?_
  rw [if_pos hw]
  unfold Oper.wpIn
  refine ⟨fun _ _ => trivial, ?_⟩
  rw [Oper.semAt_plain (WF r) _ _ (by rw [ho]; intro c hc; cases hc)]
  rcases h with ⟨f, cap, rfl, he, hc⟩ | ⟨l, fn, tmps, assign, body, rfl, hy, hc⟩
  · simp [execOp, ho, resolve, invoke, hs, hx, hz, he, Deferred.ofValue]
    rw [Oper.uponIn_enter]
    refine ⟨fun h => (by cases h), wf_calls.mpr ((show Calls P f (#[u, v] ++ cap) W R from hc).mono fun e w' hr => ?_)⟩
    obtain ⟨v, rfl, hw⟩ := hK e w' hr
    exact hK' _ _ hw
  · simp [execOp, ho, resolve, invoke, hs, hx, hz, hy, Deferred.ofValue]
    rw [Oper.uponIn_round]
    refine ⟨fun h => (by cases h), RoundIn.mono (hc _) fun e w' hr => ?_⟩
    obtain ⟨v, rfl, hw⟩ := hK e w' hr
    exact hK' _ _ hw
end Go.Proofs.YtcbanlgnanihhaaGreatDoor
namespace Go.Proofs.YtcbanlgnanihhaaGreatDoor
open Go.RowKit Go.Maps
set_option linter.unusedVariables false
attribute [local go_sem] Oper.semAt_some

set_option maxRecDepth 100000 in
set_option maxHeartbeats 3200000 in
theorem RAllF_any {cs : List Cl} {br bk : Nat} {bps : List Nat} (Inv : Nat → (Nat → Bool) → Nat → Prop) (x1 x2 x3 : Nat) (f t : Int) (f0 : 0 ≤ f) (f1 : f ≤ 146097) (t0 : -1 ≤ t) (t1 : t ≤ 146096)
    (hstep : ∀ j n ws m ws' m', (daysL f t)[j]? = some n → Inv j ws m → AtStep cs n ws m ws' m' → Inv (j + 1) ws' m') (hbd : ∀ j ws m, Inv j ws m → j < (daysL f t).length → m < 4611686018427387904) :
    TellsH Tryz.prog 74 #[.pointer (some ⟨x1, 0, none⟩), .pointer (some ⟨x2, 0, none⟩), .pointer (some ⟨x3, 0, none⟩)] (dayS cs (daysL f t)).length (VRoll cs (RM br bk bps) (dayS cs (daysL f t)))
      (HA cs br bk bps x1 x2 x3 f t (Inv 0)) (HA cs br bk bps x1 x2 x3 f t (Inv (daysL f t).length)) (fun F W => ∃ j, HA cs br bk bps x1 x2 x3 f t (Inv j) F W) (RM br bk bps) := by
  intro y J Jx O F W hH hFO hC hJ
  obtain ⟨yf, yi, yc, rfl⟩ := hC.form
  show Calls Tryz.prog 74 #[.func yf yi yc, .pointer (some ⟨x1, 0, none⟩), .pointer (some ⟨x2, 0, none⟩), .pointer (some ⟨x3, 0, none⟩)] W _
  obtain ⟨W1, hW1⟩ : ∃ W1, W.alloc (.cells #[.func yf yi yc] 76) = W1 := ⟨_, rfl⟩
  have q3 : W1.heap.size = W.heap.size + 1 := by rw [← hW1]; simp
  have q4 : Below W.heap.size W W1 := by rw [← hW1]; exact below_new (Below.refl _ _) (Nat.le_refl _)
  have q5 : W1.cell? ⟨W.heap.size, 0, none⟩ = some (.func yf yi yc) := by rw [← hW1]; simp [go_sem]
  have hFlt := hH.lt
  have hOlt := hC.lt 0 O F W hJ
  have hH1 : HA cs br bk bps x1 x2 x3 f t (Inv 0) F W1 := hH.keep q4.size (fun b hb => q4.block b (hFlt b hb))
  have HH1 := hid hH1
  have HJ1 : Hid (J 0 O F W1) := hC.stab 0 O F F W W1 hJ q4.size (fun _ h => h) (fun b hb => q4.block b (hb.elim (hOlt b) (fun h => hFlt b h.1)))
  have HRM := hid hH.sub
  have HF := hid hFlt
  have HO := hid hOlt
  have HFO := hid hFO
  have HC := hid hC
  have Hst := hid hstep
  have Hbd := hid hbd
  have k1 := hH1.c1
  have k2 := hH1.c2
  have HW1 := hid hW1
  have Q4 := hid q4
  have Q3 := hid q3
  have ey := hid q5
  obtain ⟨L, hL⟩ : ∃ L, (daysL f t).length = L := ⟨_, rfl⟩
  rw [hL] at Hbd ⊢
  have HL := hid hL
  clear hH hFO hC hJ hW1 q3 q4 q5 hFlt hOlt hH1 hstep hbd hL
  refine (wf_calls (r := none) (n := 1)).mp ?_
  refine callsIn_of_wp_marks Tryz.func74 rfl trivial ?_ rfl
  simp only [Tryz.ntmps74, List.size_toArray, List.length_cons, List.length_nil, Nat.reduceAdd, Nat.reduceSub, Array.replicate_succ, Array.replicate_zero, List.push_toArray, List.append_toArray, List.nil_append, List.cons_append]
  gi_wp2_with fail
  refine wpIn_scope ?_
  rw [HW1.out]
  gi_wp2_with fail
  refine wpIn_label ?_
  gi_wp2_with fail
  refine (wf_calls.mpr (WDays_any _ _ _)).mono ?_
  rintro e w2 ⟨rfl, hk1, hk2, hB2, hs2⟩
  have hk1' : w2.cell? ⟨W1.heap.size, 0, none⟩ = some (.int .i64 f) := by rw [hk1, show max f 0 = f by omega]
  have hk2' : w2.cell? ⟨W1.heap.size + 1, 0, none⟩ = some (.int .i64 t) := by rw [hk2, show min t 146096 = t by omega]
  have s12 := hB2.size
  have hB02 : Below W.heap.size W w2 := Q4.out.trans (hB2.mono Q4.out.size)
  have hI2 : IG (RM br bk bps) O F W (fun O1 F1 W' => J (cntA cs (daysL f t) 0) O1 F1 W' ∧ HA cs br bk bps x1 x2 x3 f t (Inv 0) F1 W') (fun b => O b ∨ F b) w2 :=
    ⟨O, F, fun b => Iff.rfl, HFO.out, ⟨HC.out.stab 0 O F F W1 w2 HJ1.out hB2.size (fun _ h => h) (fun b hb => hB2.block b (by have := hb.elim (HO.out b) (fun h => HF.out b h.1); have := Q3.out; omega)), HH1.out.keep hB2.size (fun b hb => hB2.block b (by have := HF.out b hb; have := Q3.out; omega))⟩, fun _ h => h, fun _ h => .inl h, fun _ h => h, fun _ h => .inl h, fun b hb _ => hB02.block b (HF.out b hb)⟩
  have tl := hid (week_tells f t W1.heap.size (W1.heap.size + 1) (fun b => O b ∨ F b) w2 f0 f1 t1 t0 (by omega) hs2 (fun h => by have := h.elim (HO.out _) (HF.out _); have := Q3.out; omega) (fun h => by have := h.elim (HO.out _) (HF.out _); have := Q3.out; omega) hk1' hk2')
  have ey2 := hid ((hB2.cell (p := ⟨W.heap.size, 0, none⟩) (by have := Q3.out; simp only []; omega)).trans ey.out)
  have nOy : Hid (¬ (O W.heap.size ∨ F W.heap.size)) := fun h => by have := h.elim (HO.out _) (HF.out _); omega
  have szW : W.heap.size < w2.heap.size := by have := Q3.out; omega
  have HB02 := hid hB02
  have HI2 := hid hI2
  clear hk1 hk2 hk1' hk2' hB2 hB02 hI2 k1 k2
  gi_wp2_with fail
  refine range_outerV (gf := 122) (lb := #[.pointer (some ⟨W1.heap.size, 0, none⟩), .pointer (some ⟨W1.heap.size + 1, 0, none⟩)]) rfl week_enters (shTell (daysL f t)) (fun b => O b ∨ F b) (fun x hx => by simp only [shTell, List.mem_map] at hx; obtain ⟨_, _, rfl⟩ := hx; rfl) tl.out
    (fun k O2 W' => IG (RM br bk bps) O F W (fun O1 F1 W' => J (cntA cs (daysL f t) k) O1 F1 W' ∧ HA cs br bk bps x1 x2 x3 f t (Inv k) F1 W') O2 W')
    (fun c k O2 W' => c = .exit 0 ∧ IG (RM br bk bps) O F W (fun O1 F1 W' => (∃ q, 1 ≤ q ∧ q ≤ (dayS cs (daysL f t)).length ∧ Jx q O1 F1 W') ∧ HA cs br bk bps x1 x2 x3 f t (Inv k) F1 W') O2 W')
    ?stab ?stabx ?lt ?ltx HI2.out
    (fun k O2 a' W' => IG (RM br bk bps) O F W (fun O1 F1 W' => J (cntA cs (daysL f t) k) O1 F1 W' ∧ HA cs br bk bps x1 x2 x3 f t (Inv k) F1 W') O2 W' ∧ ∃ bx n, (daysL f t)[k]? = some n ∧ bx < W'.heap.size ∧ ¬ O2 bx ∧ ShS W' bx (shF n) ∧ ∃ (u6 u7 u8 u9 u10 u11 u12 u13 u14 u15 u16 u17 u18 u19 u20 u21 : Value), a' = { tmps := #[.func yf yi yc, .pointer (some ⟨x1, 0, none⟩), .pointer (some ⟨x2, 0, none⟩), .pointer (some ⟨x3, 0, none⟩), .pointer (some ⟨W.heap.size, 0, none⟩), .pointer (some ⟨bx, 0, none⟩), u6, u7, u8, u9, u10, u11, u12, u13, u14, u15, u16, u17, u18, u19, u20, u21], defers := [] })
    ?putl ?assign ?body ?done ?stop
  case stab =>
    intro k O2 W' W2 h hs hO
    exact h.keep hs hO (fun O1 F1 ⟨g1, g2⟩ g3 g4 => ⟨HC.out.stab _ O1 F1 F1 W' W2 g1 g3 (fun _ h => h) (fun b hb => g4 b (hb.imp id And.left)), g2.keep g3 (fun b hb => g4 b (.inr hb))⟩)
  case stabx =>
    rintro c k O2 W' W2 ⟨rfl, h⟩ hs hO
    exact ⟨rfl, h.keep hs hO (fun O1 F1 ⟨⟨q, q1, q2, g1⟩, g2⟩ g3 g4 => ⟨⟨q, q1, q2, HC.out.stabx _ O1 F1 F1 W' W2 g1 g3 (fun _ h => h) (fun b hb => g4 b (hb.imp id And.left))⟩, g2.keep g3 (fun b hb => g4 b (.inr hb))⟩)⟩
  case lt =>
    intro k O2 W' h
    exact h.lt (fun O1 F1 ⟨g1, g2⟩ b hb => hb.elim (HC.out.lt _ _ _ _ g1 b) (g2.lt b))
  case ltx =>
    rintro c k O2 W' ⟨rfl, h⟩
    exact h.lt (fun O1 F1 ⟨⟨q, q1, q2, g1⟩, g2⟩ b hb => hb.elim (HC.out.ltx _ _ _ _ g1 b) (g2.lt b))
  case putl =>
    rintro l' o k O2 a' W' hr hn ⟨h, bx, n, h1, h2, h3, h4, h5⟩
    exact ⟨h.keep (by rw [World.putObj_size]; exact Nat.le_refl _) (fun b hb => World.putObj_heap_other (fun e => hn (e ▸ hb))) (fun O1 F1 ⟨g1, g2⟩ g3 g4 => ⟨HC.out.stab _ O1 F1 F1 W' _ g1 g3 (fun _ h => h) (fun b hb => g4 b (hb.imp id And.left)), g2.keep g3 (fun b hb => g4 b (.inr hb))⟩), bx, n, h1, by rw [World.putObj_size]; exact h2, h3, shS_put h4 hr, h5⟩
  case assign =>
    intro l' k O6 W6 K hk hI6 hG6 hK
    have hk2 : k < (daysL f t).length := by rw [shTell_len] at hk; exact hk
    have hx := shTell_get hk
    obtain ⟨n, hn⟩ : ∃ n, (daysL f t)[k] = n := ⟨_, rfl⟩
    have Hn' : Hid ((daysL f t)[k]? = some n) := by show _ = _; rw [List.getElem?_eq_getElem hk2, hn]
    rw [hn, ← shq_shF] at hx
    rw [hx]
    obtain ⟨s, hs⟩ : ∃ s, shF n = s := ⟨_, rfl⟩
    rw [hs, shq]
    have Hs := hid hs
    have hlt6 : ∀ b, O6 b → b < W6.heap.size := hI6.lt (fun O1 F1 ⟨g1, g2⟩ b hb => hb.elim (HC.out.lt _ _ _ _ g1 b) (g2.lt b))
    have Hlt6 := hid hlt6
    have HI6 := hid hI6
    clear hx hn hs hlt6 hk2 hI6 hG6
    gi_wp2
    have hbel := below_new (o := .cells (shList s).toArray 63) (Below.refl W6.heap.size W6) (Nat.le_refl _)
    exact hK _ O6 _ (Grow.of_below hbel) ⟨HI6.out.keep hbel.size (fun b hb => hbel.block b (Hlt6.out b hb)) (fun O1 F1 ⟨g1, g2⟩ g3 g4 => ⟨HC.out.stab _ O1 F1 F1 W6 _ g1 g3 (fun _ h => h) (fun b hb => g4 b (hb.imp id And.left)), g2.keep g3 (fun b hb => g4 b (.inr hb))⟩), W6.heap.size, n, Hn'.out, by simp, fun h => by have := Hlt6.out _ h; omega, by rw [Hs.out]; exact shC_new W6 63 _ _ _ _ _ _ _ _ _ _, _, _, _, _, _, _, _, _, _, _, _, _, _, _, _, _, rfl⟩
  case done =>
    intro O9 w9 hG9 hI9 hD hnD
    rw [shTell_len, cntA_all, HL.out] at hI9
    obtain ⟨O1, F1, e, h1, ⟨hJ9, hH9⟩, h3, h4, h5, h6, h7⟩ := hI9
    have hE : Eff (fun b => O b ∨ F b) W w9 := (Eff.of_below HB02.out).trans hG9.eff (fun _ h => .inl h)
    have n1 : ¬ O1 w2.heap.size := fun h => hnD ((e _).2 (.inl h))
    have n2 : ¬ F1 w2.heap.size := fun h => hnD ((e _).2 (.inr h))
    have sz : W.heap.size ≤ w2.heap.size := HB02.out.size
    have hfin : Hid (∀ o : Obj, ToldH (dayS cs (daysL f t)).length (HA cs br bk bps x1 x2 x3 f t (Inv L)) (fun F W => ∃ j, HA cs br bk bps x1 x2 x3 f t (Inv j) F W) (RM br bk bps) J Jx O F W (w9.putObj w2.heap.size o)) := fun o => by
      have pb : ∀ b, b ≠ w2.heap.size → (w9.putObj w2.heap.size o).heap[b]? = w9.heap[b]? := fun b hb => World.putObj_heap_other hb
      have ps : (w9.putObj w2.heap.size o).heap.size = w9.heap.size := World.putObj_size
      refine ⟨O1, F1, IG.growM (F := F) HRM.out HF.out h3 h4 (fun b g n => (pb b (fun e' => n2 (e' ▸ h5 b g))).trans (h7 b g n)) (hE.putObj (.inr sz) o), h5, h6, h1, .inl ⟨hH9.keep (by rw [ps]; exact Nat.le_refl _) (fun b hb => pb b (fun e' => n2 (e' ▸ hb))), ?_⟩⟩
      exact HC.out.stab _ O1 F1 F1 w9 _ hJ9 (by rw [ps]; exact Nat.le_refl _) (fun _ h => h) (fun b hb => pb b (fun e' => hb.elim (fun h => n1 (e' ▸ h)) (fun h => n2 (e' ▸ h.1))))
    have HD9 := hid hD
    clear e h1 hJ9 hH9 h3 h4 h5 h6 h7 hE n1 n2 sz hG9 hD
    gi_wp2
    rw [Exit.noGoto_normal]
    refine ⟨by simp, .inl ⟨_, _, rfl, run_takeDeferred HD9.out, ?_⟩⟩
    exact ⟨_, results_none rfl _ _ _, ⟨_, rfl⟩, hfin.out _⟩
  case stop =>
    rintro c k O9 w9 hk1 hk2 hG9 ⟨rfl, hI9⟩ hD hnD
    obtain ⟨O1, F1, e, h1, ⟨⟨q, hq1, hq2, hJ9⟩, hH9⟩, h3, h4, h5, h6, h7⟩ := hI9
    have hE : Eff (fun b => O b ∨ F b) W w9 := (Eff.of_below HB02.out).trans hG9.eff (fun _ h => .inl h)
    have n1 : ¬ O1 w2.heap.size := fun h => hnD ((e _).2 (.inl h))
    have n2 : ¬ F1 w2.heap.size := fun h => hnD ((e _).2 (.inr h))
    have sz : W.heap.size ≤ w2.heap.size := HB02.out.size
    have hfin : Hid (∀ o : Obj, ToldH (dayS cs (daysL f t)).length (HA cs br bk bps x1 x2 x3 f t (Inv L)) (fun F W => ∃ j, HA cs br bk bps x1 x2 x3 f t (Inv j) F W) (RM br bk bps) J Jx O F W (w9.putObj w2.heap.size o)) := fun o => by
      have pb : ∀ b, b ≠ w2.heap.size → (w9.putObj w2.heap.size o).heap[b]? = w9.heap[b]? := fun b hb => World.putObj_heap_other hb
      have ps : (w9.putObj w2.heap.size o).heap.size = w9.heap.size := World.putObj_size
      refine ⟨O1, F1, IG.growM (F := F) HRM.out HF.out h3 h4 (fun b g n => (pb b (fun e' => n2 (e' ▸ h5 b g))).trans (h7 b g n)) (hE.putObj (.inr sz) o), h5, h6, h1, .inr ⟨⟨k, hH9.keep (by rw [ps]; exact Nat.le_refl _) (fun b hb => pb b (fun e' => n2 (e' ▸ hb)))⟩, q, hq1, hq2, ?_⟩⟩
      exact HC.out.stabx _ O1 F1 F1 w9 _ hJ9 (by rw [ps]; exact Nat.le_refl _) (fun _ h => h) (fun b hb => pb b (fun e' => hb.elim (fun h => n1 (e' ▸ h)) (fun h => n2 (e' ▸ h.1))))
    have HD9 := hid hD
    clear e h1 hJ9 hH9 h3 h4 h5 h6 h7 hE n1 n2 sz hG9 hD
    gi_wp2
    rw [Exit.noGoto_normal]
    refine ⟨by simp, .inl ⟨_, _, rfl, run_takeDeferred HD9.out, ?_⟩⟩
    exact ⟨_, results_none rfl _ _ _, ⟨_, rfl⟩, hfin.out _⟩
  case body =>
    rintro l3 k O6 a' W6 hk hG6 hl3 hrec6 hnl3 ⟨hI6, bx, n, en, lx, nx, hsh, u6, u7, u8, u9, u10, u11, u12, u13, u14, u15, u16, u17, u18, u19, u20, u21, rfl⟩
    have hmem := daysL_mem.1 (List.mem_of_getElem? en)
    have n0 : 0 ≤ n := by omega
    have n1 : n < 146097 := by omega
    have hkL : k < (daysL f t).length := (List.getElem?_eq_some_iff.1 en).1
    obtain ⟨O1, F1, e, h1, ⟨hJ6, hH6⟩, h3, h4, h5, h6, h7⟩ := hI6
    have ey6 := (hG6.cell (b := W.heap.size) szW nOy.out 0).trans ey2.out
    have k3 := hH6.c3
    obtain ⟨ws, m, hR6, hInv⟩ := hH6.roll
    have hm := Hbd.out k ws m hInv (by have := HL.out; omega)
    have cA := hid (RAt_any n n0 n1 hm hR6)
    have cS := hid (fun d q w hT h => Some_any d q w hT h)
    rw [← shq_shF] at cA
    obtain ⟨s, hs⟩ : ∃ s, shF n = s := ⟨_, rfl⟩
    rw [hs] at cA hsh
    rw [shq] at cA
    obtain ⟨s0, s1, s2, s3, s4, s5, s6, s7, s8, s9⟩ := hsh
    have Sh6 : Hid (ShS W6 bx s) := ⟨s0, s1, s2, s3, s4, s5, s6, s7, s8, s9⟩
    have Hs := hid hs
    have En := hid en
    have N01 := hid (And.intro n0 n1)
    have HI6 := hid (show IG (RM br bk bps) O F W (fun O1 F1 W' => J (cntA cs (daysL f t) k) O1 F1 W' ∧ HA cs br bk bps x1 x2 x3 f t (Inv k) F1 W') O6 W6 from ⟨O1, F1, e, h1, ⟨hJ6, hH6⟩, h3, h4, h5, h6, h7⟩)
    have Hparts := hid (And.intro e (And.intro h1 (And.intro hJ6 (And.intro hH6 (And.intro h3 (And.intro h4 (And.intro h5 (And.intro h6 h7))))))))
    have HR6 := hid hR6
    have HInv := hid hInv
    have sz6 := hG6.eff.size
    have HE06 : Hid (Eff (fun b => O b ∨ F b) W W6) := (Eff.of_below HB02.out).trans hG6.eff (fun _ h => .inl h)
    clear e h1 hJ6 hH6 h3 h4 h5 h6 h7 hR6 hInv hm hs en hmem n0 n1 hG6
    gi_wp2_with fail
    refine (wf_calls.mpr cA.out).mono ?_
    rintro e w7 ⟨d, F2, ws', m', rfl, hR7, hGr, hE7, hst7, hnone, hsome⟩
    obtain ⟨e, h1, hJ6, hH6, h3, h4, h5, h6, h7⟩ := Hparts.out
    have hlt1 : ∀ b, O1 b → b < W6.heap.size := HC.out.lt _ _ _ _ hJ6
    have hHA7 : HA cs br bk bps x1 x2 x3 f t (Inv (k + 1)) F2 w7 := hH6.step hR7 hGr.sub hE7 (Hst.out k n ws m ws' m' En.out HInv.out hst7)
    obtain ⟨g1, g5, g6, g7, gk, gG⟩ := ig_step (F := F) h1 h5 h6 h7 hlt1 hH6.lt hH6.sub hGr hE7 HE06.out.size
    have hJ7 : J (cntA cs (daysL f t) k) O1 F2 w7 := HC.out.stab _ O1 F1 F2 W6 w7 hJ6 hE7.size hGr.sub gk
    have h8 : cs.length ≤ 8 := by have := hR7.x.may; rw [mayL, Bool.and_eq_true, decide_eq_true_eq] at this; exact this.1
    have hd7 := day_disc h8 N01.out.1 N01.out.2 hnone hsome
    have HT7 := hid hR7.x.tab
    have cS7 := hid (cS.out d (dayQ cs n) w7 hR7.x.tab.1 hd7)
    have HG67 := hid (gG O6 e)
    have Hp7 := hid (And.intro g1 (And.intro hJ7 (And.intro hHA7 (And.intro h3 (And.intro h4 (And.intro g5 (And.intro g6 g7)))))))
    have HE07 : Hid (Eff (fun b => O b ∨ F b) W w7) := HE06.out.trans hE7 (fun b hb => (h6 b (hH6.sub b hb)).imp .inr id)
    have Hsn := hid (cntA_snoc (cs := cs) En.out)
    have Hsome := hid hsome
    have Hnd : Hid (d = none → ∀ j, j < 86400 → dayQ cs n j = false) := fun hd j hj => day_none h8 N01.out.1 N01.out.2 (hnone hd) hj
    have ey7 := (hE7.cell (p := ⟨W.heap.size, 0, none⟩) (by simp only []; omega) (fun hM => nOy.out (.inr (HRM.out _ hM)))).trans ey6
    have Sh7 := hid (shS_blk Sh6.out (hE7.block bx lx (fun hM => nx ((e bx).2 (.inr (hH6.sub bx hM))))))
    obtain ⟨qv, hqv⟩ : ∃ qv, anyQ (dayQ cs n) = qv := ⟨_, rfl⟩
    have Hqv := hid hqv
    rw [hqv] at cS7 Hsn
    clear hR7 hGr hE7 hst7 hnone e h1 hJ6 hH6 h3 h4 h5 h6 h7 hlt1 hHA7 g1 g5 g6 g7 gk gG hJ7 h8 hd7 hsome hqv s0 s1 s2 s3 s4 s5 s6 s7 s8 s9 ey6 k3
    gi_wp2_with fail
    refine (wf_calls.mpr cS7.out).mono ?_
    rintro e w8 ⟨rfl, rfl⟩
    cases qv
    · have hfin : Hid (Grow O6 (fun b => O1 b ∨ F2 b) W6 w7 ∧ IG (RM br bk bps) O F W (fun O1 F1 W' => J (cntA cs (daysL f t) (k + 1)) O1 F1 W' ∧ HA cs br bk bps x1 x2 x3 f t (Inv (k + 1)) F1 W') (fun b => O1 b ∨ F2 b) w7) := by
        obtain ⟨g1, hJ7, hHA7, h3, h4, g5, g6, g7⟩ := Hp7.out
        refine ⟨HG67.out, O1, F2, fun b => Iff.rfl, g1, ⟨?_, hHA7⟩, h3, h4, g5, g6, g7⟩
        rw [Hsn.out]; exact hJ7
      clear Hp7 HG67
      gi_wp2
      exact ⟨_, hfin.out.1, hfin.out.2⟩
    · obtain ⟨b, rfl⟩ : ∃ b, d = some b := by
        cases d with
        | none =>
          exfalso
          obtain ⟨j, hj, hj2⟩ := anyQ_true.1 Hqv.out
          exact absurd hj2 (by simp [Hnd.out rfl j hj])
        | some b => exact ⟨b, rfl⟩
      have hat := cntA_at (cs := cs) En.out Hqv.out
      obtain ⟨g1, hJ7, hHA7, h3, h4, g5, g6, g7⟩ := Hp7.out
      have hidx := (List.getElem?_eq_some_iff.1 hat).1
      have hltF2 := hHA7.lt
      have hcall := HC.out.call _ O1 F2 w7 #[shN n, .pointer (some ⟨b, 0, none⟩)] hidx hJ7 g1 ⟨n, b, hat, N01.out.1, N01.out.2, rfl, Hsome.out b rfl, HT7.out, hltF2⟩ (IG.growM HRM.out HF.out h3 h4 g7 HE07.out)
      rw [← shq_shF, Hs.out, shq] at hcall
      have Hcall := hid hcall
      have Hidx := hid hidx
      have sz7 : Hid (W.heap.size ≤ w7.heap.size) := HE07.out.size
      obtain ⟨r0, r1, r2, r3, r4, r5, r6, r7, r8, r9⟩ := Sh7.out
      clear hcall hidx hat g1 hJ7 hHA7 h3 h4 g5 g6 g7 hltF2
      gi_wp2_with (refine callv2 (.tmp 17) (.tmp 18) (.tmp 19) _ _ rfl rfl rfl rfl rfl Hcall.out ?_)
      rintro e W8 O8 y1 y2 y3 hend
      obtain ⟨g1, hJ7, hHA7, h3, h4, g5, g6, g7⟩ := Hp7.out
      obtain ⟨p1, p3, p4, p7, pk, pG⟩ := ig_yield (F := F) g1 h3 h4 g5 g7 hHA7.lt y1 y2 y3 sz7.out
      have hHA8 : HA cs br bk bps x1 x2 x3 f t (Inv (k + 1)) F2 W8 := hHA7.keep y3.size pk
      have HG8 := hid (HG67.out.trans pG)
      rcases hend with ⟨rfl, hJ8⟩ | ⟨rfl, hJ8⟩
      · have hfin : Hid (IG (RM br bk bps) O F W (fun O1 F1 W' => J (cntA cs (daysL f t) (k + 1)) O1 F1 W' ∧ HA cs br bk bps x1 x2 x3 f t (Inv (k + 1)) F1 W') (fun b => O8 b ∨ F2 b) W8) :=
          ⟨O8, F2, fun b => Iff.rfl, p1, ⟨by rw [Hsn.out]; exact hJ8, hHA8⟩, p3, p4, g5, g6, p7⟩
        clear g1 hJ7 hHA7 h3 h4 g5 g6 g7 p1 p3 p4 p7 pk pG hHA8 hJ8 y1 y2 y3
        refine ⟨_, rfl, ?_⟩
        gi_wp2
        exact ⟨_, HG8.out, hfin.out⟩
      · have hfin : Hid (IG (RM br bk bps) O F W (fun O1 F1 W' => (∃ q, 1 ≤ q ∧ q ≤ (dayS cs (daysL f t)).length ∧ Jx q O1 F1 W') ∧ HA cs br bk bps x1 x2 x3 f t (Inv (k + 1)) F1 W') (fun b => O8 b ∨ F2 b) W8) :=
          ⟨O8, F2, fun b => Iff.rfl, p1, ⟨⟨_, by omega, Nat.succ_le_of_lt Hidx.out, hJ8⟩, hHA8⟩, p3, p4, g5, g6, p7⟩
        clear g1 hJ7 hHA7 h3 h4 g5 g6 g7 p1 p3 p4 p7 pk pG hHA8 hJ8 y1 y2 y3
        refine ⟨_, rfl, ?_⟩
        gi_wp2
        exact ⟨_, HG8.out, rfl, hfin.out⟩
end Go.Proofs.YtcbanlgnanihhaaGreatDoor

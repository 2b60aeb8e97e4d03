/-
  Function values that are called back: a closure, or a loop's yield; and who owns which block.
-/
import Derived.Test.YtchceegpbfecaaaDoorMaskAll
import Derived.RangeFuncNested
import Derived.RangeFuncBound
import Derived.RangeFuncCalls
import Derived.RangeFuncLeaves
import Derived.OwnWalkIn
namespace Go.Proofs.YtchceegpbfecaaaDoor
open Go.RowKit
set_option linter.unusedVariables false

/-- the fence that lets everything in, in a round of r or outside -/
abbrev WF (r : Option Nat) : Fence := { fn := fun _ => True, depth := none, alive := false, round := r }
theorem wf_calls {r : Option Nat} {n : Nat} {P : Program} {f : FuncId} {args : Array Value} {w : World} {R : Ending → World → Prop} : CallsIn (WF r) n P f args w R ↔ Calls P f args w R := callsIn_wide (n := n)

/-- a call of a function value with captured values, or of a loop's yield -/
def CallV (P : Program) (y : Value) (args : Array Value) (W : World) (R : Ending → World → Prop) : Prop :=
  (∃ f cap, y = .func (.func f) #[] cap ∧ (∀ args w, (callFunc f args).run P w = .ok (.enter f args) w) ∧ Calls P f (args ++ cap) W R) ∨
  (∃ l fn tmps assign body, y = .func (.yield l) #[] #[] ∧ (Instr.yield l args).run P W = .ok (.round l fn tmps assign body) W ∧ ∀ n, RoundIn (WF none) n P l fn tmps assign body W R)
theorem CallV.mono {P : Program} {y : Value} {args : Array Value} {W : World} {R R' : Ending → World → Prop} (h : CallV P y args W R) (hr : ∀ e w', R e w' → R' e w') : CallV P y args W R' := by
  rcases h with ⟨f, cap, h1, h2, h3⟩ | ⟨l, fn, tmps, assign, body, h1, h2, h3⟩
  · exact .inl ⟨f, cap, h1, h2, h3.mono hr⟩
  · exact .inr ⟨l, fn, tmps, assign, body, h1, h2, fun n => (h3 n).mono hr⟩

theorem callv {r : Option Nat} {n : Nat} {P : Program} {ops : Array Oper} {rest : List Oper} {o : Oper} {a : Act} {Q : Exit → Act → World → Prop} {W : World} (s x : Operand) (t : TypeId)
    (hgd : o.guard = none) (ho : o.op = .call { callee := .value s, args := #[x], argTypes := #[t] }) {y u : Value} (hs : a.eval s = y) (hx : a.eval x = u) {R : Ending → World → Prop}
    (h : CallV P y #[u] W R) (hK : ∀ e W', R e W' → ∃ v, e = .returned v ∧ wpListIn (WF r) n P ops Q rest (a.put o.dst v) W') :
    wpListIn (WF r) n P ops Q (o :: rest) a W := by
  refine wpListIn_plain hgd fun K hK' => ?_
  unfold Oper.wpIn
  refine ⟨fun _ _ => trivial, ?_⟩
  rw [Oper.semAt_plain (WF r) _ _ (by rw [ho]; intro c hc; cases hc)]
  rcases h with ⟨f, cap, rfl, he, hc⟩ | ⟨l, fn, tmps, assign, body, rfl, hy, hc⟩
  · simp [execOp, ho, resolve, invoke, hs, hx, he, Deferred.ofValue]
    rw [Oper.uponIn_enter]
    refine ⟨fun h => (by cases h), wf_calls.mpr ((show Calls P f (#[u] ++ cap) W R from hc).mono fun e w' hr => ?_)⟩
    obtain ⟨v, rfl, hw⟩ := hK e w' hr
    exact hK' _ _ hw
  · simp [execOp, ho, resolve, invoke, hs, hx, hy, Deferred.ofValue]
    rw [Oper.uponIn_round]
    refine ⟨fun h => (by cases h), RoundIn.mono (hc _) fun e w' hr => ?_⟩
    obtain ⟨v, rfl, hw⟩ := hK e w' hr
    exact hK' _ _ hw

/-- only blocks of O, or new ones, have turned -/
structure Eff (O : Nat → Prop) (W W' : World) : Prop where
  os : W'.os = W.os
  tape : W'.tape = W.tape
  output : W'.output = W.output
  size : W.heap.size ≤ W'.heap.size
  block : ∀ k, k < W.heap.size → ¬ O k → W'.heap[k]? = W.heap[k]?
theorem Eff.refl (O : Nat → Prop) (W : World) : Eff O W W := ⟨rfl, rfl, rfl, Nat.le_refl _, fun _ _ _ => rfl⟩
theorem Eff.trans {O O' : Nat → Prop} {A B C : World} (h : Eff O A B) (k : Eff O' B C) (hO : ∀ b, O' b → O b ∨ A.heap.size ≤ b) : Eff O A C :=
  ⟨k.os.trans h.os, k.tape.trans h.tape, k.output.trans h.output, Nat.le_trans h.size k.size, fun i hi hn =>
    (k.block i (Nat.lt_of_lt_of_le hi h.size) (fun ho => by rcases hO i ho with h1 | h1; exact hn h1; omega)).trans (h.block i hi hn)⟩
theorem Eff.cell {O : Nat → Prop} {W W' : World} (h : Eff O W W') {p : Addr} (hp : p.block < W.heap.size) (hn : ¬ O p.block) : W'.cell? p = W.cell? p := World.cell?_of_block (w := W) (h.block p.block hp hn)
theorem Eff.of_below {O : Nat → Prop} {W W' : World} (h : Below W.heap.size W W') : Eff O W W' := ⟨h.os, h.tape, h.output, h.size, fun k hk _ => h.block k hk⟩
theorem Eff.below {O : Nat → Prop} {W W' : World} {B : Nat} (h : Eff O W W') (hO : ∀ b, O b → B ≤ b) (hB : B ≤ W.heap.size) : Below B W W' :=
  ⟨h.os, h.tape, h.output, h.size, fun k hk => h.block k (by omega) (fun ho => by have := hO k ho; omega)⟩

/-- what a caller of an iterator promises: J between two calls (k have come), Jx behind a 'no more' -/
structure Client (P : Program) (y : Value) (xs : List Int) (J Jx : Nat → (Nat → Prop) → World → Prop) : Prop where
  stab : ∀ k O W W', J k O W → W.heap.size ≤ W'.heap.size → (∀ b, O b → W'.heap[b]? = W.heap[b]?) → J k O W'
  stabx : ∀ k O W W', Jx k O W → W.heap.size ≤ W'.heap.size → (∀ b, O b → W'.heap[b]? = W.heap[b]?) → Jx k O W'
  lt : ∀ k O W, J k O W → ∀ b, O b → b < W.heap.size
  ltx : ∀ k O W, Jx k O W → ∀ b, O b → b < W.heap.size
  call : ∀ k O W, (hk : k < xs.length) → J k O W → CallV P y #[.int .i64 xs[k]] W fun e W' => ∃ O' : Nat → Prop, (∀ b, O b → O' b) ∧ (∀ b, O' b → O b ∨ W.heap.size ≤ b) ∧ Eff O W W' ∧
    ((e = .returned (.bool true) ∧ J (k + 1) O' W') ∨ (e = .returned (.bool false) ∧ Jx (k + 1) O' W'))

/-- what an iterator has done in the end -/
def Told (xs : List Int) (J Jx : Nat → (Nat → Prop) → World → Prop) (O : Nat → Prop) (W : World) (W' : World) : Prop :=
  ∃ O' : Nat → Prop, (∀ b, O b → O' b) ∧ (∀ b, O' b → O b ∨ W.heap.size ≤ b) ∧ Eff O W W' ∧ (J xs.length O' W' ∨ ∃ k, 1 ≤ k ∧ k ≤ xs.length ∧ Jx k O' W')
end Go.Proofs.YtchceegpbfecaaaDoor

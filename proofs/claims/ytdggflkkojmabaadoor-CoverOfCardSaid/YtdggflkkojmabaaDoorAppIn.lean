/-
  The append laws in a fenced walk.
-/
import Derived.Test.YtdggflkkojmabaaDoorIter
namespace Go.Proofs.YtdggflkkojmabaaDoor
open Go.RowKit
set_option linter.unusedVariables false

theorem appNIn {r : Option Nat} {nn : Nat} {P : Program} {t e : TypeId} {z : Value} {size bytes : Nat} (E : El P t e z size bytes) {W : World} {ops : Array Oper} {rest : List Oper} {o : Oper} {a : Act} {Q : Exit → Act → World → Prop} (s x : Operand)
    (hgd : o.guard = none) (ho : o.op = .call { callee := .builtin .append, args := #[s, x], argTypes := #[t, t] })
    {base : Nat} {v : Value} {n : Nat} {xs : List Value} {ax : Option Addr} {m c : Nat} {news : List Value} (hs : a.eval s = v) (hx : a.eval x = .slice ax m c) (hown : W.ownsRow base e size v n xs)
    (hl : news.length = m * size) (hsrc : Sl W ax news) (hnone : ax = none → c = 0) (h1 : ∀ u ∈ news, u.oneCell' = true)
    (hn : n + m ≤ 1000000000000) (hby : (n + m) * bytes ≤ 140737488355328) (hbase : base ≤ W.heap.size)
    (K : ∀ a' cap' w', w'.ownsRow base e size (.slice a' (n + m) cap') (n + m) (xs ++ news) → W.grownBy w' v.ownBlock → Below base W w' →
      (∀ k, Value.ownBlock (.slice a' (n + m) cap') = some k → v.ownBlock = some k ∨ W.heap.size ≤ k) → wpListIn (WF r) nn P ops Q rest (a.put o.dst (.slice a' (n + m) cap')) w') :
    wpListIn (WF r) nn P ops Q (o :: rest) a W := by
  refine wpListIn_plain hgd fun K' hK' => ?_
  obtain ⟨a', cap', w', hr, ho', hg, hb, hf⟩ := run_app E W o.type hown hl hsrc hnone h1 hn hby hbase
  unfold Oper.wpIn
  refine ⟨fun _ _ => trivial, ?_⟩
  rw [Oper.semAt_plain (WF r) _ _ (by rw [ho]; intro c hc; cases hc)]
  unfold execOp
  simp only [ho, resolve, invoke, builtin, Sem.run_bind, Sem.run_pure, Result.andThen_ok, List.map_toArray, List.map_cons, List.map_nil, hs, hx, hr]
  exact hK' _ _ (K a' cap' w' ho' hg hb hf)

theorem app1In {r : Option Nat} {nn : Nat} {P : Program} {t e : TypeId} {z : Value} {bytes : Nat} (E : El P t e z 1 bytes) {W : World} {ops : Array Oper} {rest : List Oper} {o : Oper} {a : Act} {Q : Exit → Act → World → Prop} (s x : Operand)
    (hgd : o.guard = none) (ho : o.op = .call { callee := .builtin .append, args := #[s, x], argTypes := #[t, t] })
    {base : Nat} {v : Value} {n : Nat} {xs : List Value} {u : Value} (hs : a.eval s = v) {g : Nat} (hx : a.eval x = .slice (some ⟨g, 0, none⟩) 1 1) (hg : g = W.heap.size) (hown : W.ownsRow base e 1 v n xs) (hu : u.oneCell' = true)
    (hn : n + 1 ≤ 1000000000000) (hby : (n + 1) * bytes ≤ 140737488355328) (hbase : base ≤ W.heap.size)
    (K : ∀ a' cap' w', w'.ownsRow base e 1 (.slice a' (n + 1) cap') (n + 1) (xs ++ [u]) → W.grownBy w' v.ownBlock → Below base W w' →
      (∀ k, Value.ownBlock (.slice a' (n + 1) cap') = some k → v.ownBlock = some k ∨ W.heap.size ≤ k) → wpListIn (WF r) nn P ops Q rest (a.put o.dst (.slice a' (n + 1) cap')) w') :
    wpListIn (WF r) nn P ops Q (o :: rest) a (W.alloc (.cells #[u] e)) := by
  subst hg
  refine appNIn E s x hgd ho hs hx (hown.alloc _) (news := [u]) rfl ?_ (fun h => by cases h) ?_ hn hby (by simp; omega) ?_
  · refine .inr ⟨W.heap.size, 0, rfl, by simp, fun j hj => ?_⟩
    have : j = 0 := by simp at hj; omega
    subst this
    simp
  · intro y hy; simp at hy; subst hy; exact hu
  · intro a' cap' w' h1 h2 h3 h4
    refine K a' cap' w' h1 (grown_trans (World.grownBy_alloc W _ _) h2) (((Below.refl base W).alloc hbase _).trans h3) (fun k hk => ?_)
    rcases h4 k hk with h | h
    · exact .inl h
    · refine .inr (Nat.le_trans ?_ h); simp
end Go.Proofs.YtdggflkkojmabaaDoor

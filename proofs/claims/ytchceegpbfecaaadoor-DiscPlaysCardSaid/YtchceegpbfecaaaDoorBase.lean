/-
  The words and small laws that all proofs of this seat use: a slice in memory that reads as a list ('Sl'), what an append does ('app1'), facts hidden from the walk. No condition.
-/
import Derived.Test.YtchceegpbfecaaaDoorRows
import Derived.WalkKit
import Derived.ProofKit
import Derived.Deep.QuietTactic
import Derived.BigQuiet
namespace Go.Proofs.YtchceegpbfecaaaDoor
open Go.RowKit
set_option linter.unusedVariables false

theorem hid {p : Prop} (h : p) : Hid p := h

/-- A slice with address a: its cells, one behind the other, read as cs. -/
def Sl (w : World) (a : Option Addr) (cs : List Value) : Prop :=
  cs = [] ∨ ∃ b off, a = some ⟨b, off, none⟩ ∧ b < w.heap.size ∧ ∀ j (h : j < cs.length), w.cell? ⟨b, off + j, none⟩ = some cs[j]

theorem Sl.nil (w : World) (a : Option Addr) : Sl w a [] := .inl rfl

theorem Sl.below {w w' : World} {a : Option Addr} {cs : List Value} (h : Sl w a cs) (hb : Below w.heap.size w w') : Sl w' a cs := by
  rcases h with h | ⟨b, off, rfl, hlt, hc⟩
  · exact .inl h
  · exact .inr ⟨b, off, rfl, Nat.lt_of_lt_of_le hlt hb.size, fun j hj => (hb.cell (p := ⟨b, off + j, none⟩) hlt).trans (hc j hj)⟩

/-- the same, where the slice's block lies below a smaller bound -/
theorem Sl.at {w : World} {a : Option Addr} {cs : List Value} (h : Sl w a cs) {k : Nat} (hk : k < cs.length) :
    ∃ b off, a = some ⟨b, off, none⟩ ∧ b < w.heap.size ∧ ∀ j (h : j < cs.length), w.cell? ⟨b, off + j, none⟩ = some cs[j] := by
  rcases h with h | h
  · subst h; simp at hk
  · exact h

/-- a slice's length, for a loop's measure -/
def slLen : Value → Nat | .slice _ m _ => m | _ => 0
def ints (l : List Int) : List Value := l.map (Value.int .i64)
theorem ints_one' (x : Int) : ∀ u ∈ [Value.int .i64 x], u.oneCell' = true := by intro u hu; simp at hu; subst hu; rfl
theorem ints_length (l : List Int) : (ints l).length = l.length := by simp [ints]
theorem ints_append (l m : List Int) : ints (l ++ m) = ints l ++ ints m := by simp [ints]
theorem ints_one (x : Int) : ints [x] = [.int .i64 x] := rfl

theorem Sl.atInt {w : World} {a : Option Addr} {l : List Int} (h : Sl w a (ints l)) {k : Nat} (hk : k < l.length) :
    ∃ b off, a = some ⟨b, off, none⟩ ∧ b < w.heap.size ∧ ∀ j (h : j < l.length), w.cell? ⟨b, off + j, none⟩ = some (.int .i64 l[j]) := by
  obtain ⟨b, off, rfl, hlt, hc⟩ := Sl.at h (k := k) (by rw [ints_length]; exact hk)
  refine ⟨b, off, rfl, hlt, fun j hj => ?_⟩
  rw [hc j (by rw [ints_length]; exact hj)]
  simp [ints]

/-- three ints an element -/
def trip (x : Int × Int × Int) : List Value := [.int .i64 x.1, .int .i64 x.2.1, .int .i64 x.2.2]
def trips (l : List (Int × Int × Int)) : List Value := l.flatMap trip
theorem trip_one (x : Int × Int × Int) : ∀ u ∈ trip x, u.oneCell' = true := by
  intro u hu
  simp [trip] at hu
  rcases hu with rfl | rfl | rfl <;> rfl
theorem trips_length (l : List (Int × Int × Int)) : (trips l).length = l.length * 3 := by
  induction l with
  | nil => rfl
  | cons x l ih => simp only [trips, List.flatMap_cons, List.length_append, List.length_cons] at ih ⊢; rw [ih]; simp [trip]; omega
theorem trips_append (l m : List (Int × Int × Int)) : trips (l ++ m) = trips l ++ trips m := by simp [trips]
theorem trips_get (l : List (Int × Int × Int)) : ∀ (k : Nat) (hk : k < l.length),
    (trips l)[k * 3]? = some (.int .i64 l[k].1) ∧ (trips l)[k * 3 + 1]? = some (.int .i64 l[k].2.1) ∧ (trips l)[k * 3 + 2]? = some (.int .i64 l[k].2.2) := by
  induction l with
  | nil => intro k hk; simp at hk
  | cons x l ih =>
    intro k hk
    have e : trips (x :: l) = trip x ++ trips l := by simp [trips]
    cases k with
    | zero => simp [e, trip]
    | succ k =>
      have hk' : k < l.length := by simpa using hk
      obtain ⟨h1, h2, h3⟩ := ih k hk'
      have hl : (trip x).length = 3 := rfl
      refine ⟨?_, ?_, ?_⟩
      · rw [e, List.getElem?_append_right (by rw [hl]; omega), hl, show (k + 1) * 3 - 3 = k * 3 by omega, h1]; simp
      · rw [e, List.getElem?_append_right (by rw [hl]; omega), hl, show (k + 1) * 3 + 1 - 3 = k * 3 + 1 by omega, h2]; simp
      · rw [e, List.getElem?_append_right (by rw [hl]; omega), hl, show (k + 1) * 3 + 2 - 3 = k * 3 + 2 by omega, h3]; simp

theorem Sl.atTrip {w : World} {a : Option Addr} {l : List (Int × Int × Int)} (h : Sl w a (trips l)) {k : Nat} (hk : k < l.length) :
    ∃ b off, a = some ⟨b, off, none⟩ ∧ b < w.heap.size ∧ ∀ j (h : j < l.length), w.cell? ⟨b, off + j * 3, none⟩ = some (.int .i64 l[j].1) ∧
      w.cell? ⟨b, off + j * 3 + 1, none⟩ = some (.int .i64 l[j].2.1) ∧ w.cell? ⟨b, off + j * 3 + 2, none⟩ = some (.int .i64 l[j].2.2) := by
  obtain ⟨b, off, rfl, hlt, hc⟩ := Sl.at h (k := k * 3) (by rw [trips_length]; omega)
  refine ⟨b, off, rfl, hlt, fun j hj => ?_⟩
  have hg := trips_get l j hj
  have get : ∀ m v, (trips l)[m]? = some v → w.cell? ⟨b, off + m, none⟩ = some v := by
    intro m v hm
    obtain ⟨hlm, hv⟩ := List.getElem?_eq_some_iff.1 hm
    rw [hc m hlm, hv]
  exact ⟨get _ _ hg.1, by rw [Nat.add_assoc]; exact get _ _ hg.2.1, by rw [Nat.add_assoc]; exact get _ _ hg.2.2⟩

/-- A slice that the call itself owns, as a slice that reads. -/
theorem owns_form {w : World} {base : Nat} {e : TypeId} {s : Nat} {v : Value} {n : Nat} {xs : List Value} (h : w.ownsRow base e s v n xs) :
    ∃ a cap, v = .slice a n cap ∧ Sl w a xs ∧ n ≤ maxLen := by
  obtain ⟨hl, h⟩ := h
  rcases h with ⟨rfl, rfl⟩ | ⟨g, cap, cur, rfl, hb, hg, hnc, hcm, hcs, ht⟩
  · refine ⟨none, 0, rfl, .inl ?_, by unfold maxLen; omega⟩
    exact List.eq_nil_of_length_eq_zero (by simpa using hl)
  · refine ⟨_, cap, rfl, .inr ⟨g, 0, rfl, (Array.getElem?_eq_some_iff.1 hg).1, fun j hj => ?_⟩, Nat.le_trans hnc hcm⟩
    have := World.ownsRow.cellAt (w := w) (base := base) (e := e) (size := s) (g := g) (n := n) (cap := cap) (xs := xs)
      ⟨hl, .inr ⟨g, cap, cur, rfl, hb, hg, hnc, hcm, hcs, ht⟩⟩ j (by rw [← hl]; exact hj)
    rw [Nat.zero_add, this, List.getElem?_eq_getElem hj]

theorem owns_sl {w : World} {base : Nat} {e : TypeId} {s : Nat} {a : Option Addr} {m n cap : Nat} {xs : List Value} (h : w.ownsRow base e s (.slice a m cap) n xs) : Sl w a xs := by
  obtain ⟨a', c', e, hs, _⟩ := owns_form h
  simp only [Value.slice.injEq] at e
  rw [e.1]; exact hs

theorem owns_below {w w' : World} {base B : Nat} {e : TypeId} {s : Nat} {v : Value} {n : Nat} {xs : List Value} (h : w.ownsRow base e s v n xs) (hb : Below B w w') (hB : w.heap.size ≤ B) : w'.ownsRow base e s v n xs := by
  refine h.kept (row := none) ⟨hb.os, hb.tape, hb.output, hb.size, fun k hk _ => hb.block k (by omega)⟩ ?_
  cases hv : v.ownBlock <;> simp

theorem owns_base {w : World} {base base' : Nat} {e : TypeId} {s : Nat} {v : Value} {n : Nat} {xs : List Value} (h : w.ownsRow base e s v n xs) (hb : base' ≤ base) : w.ownsRow base' e s v n xs := by
  refine ⟨h.1, ?_⟩
  rcases h.2 with h | ⟨g, cap, cur, rfl, hg, r⟩
  · exact .inl h
  · exact .inr ⟨g, cap, cur, rfl, by omega, r⟩

theorem Below.of_grown {B : Nat} {w w' : World} {row : Option Nat} (hg : w.grownBy w' row) (hB : B ≤ w.heap.size) (hr : ∀ k, row = some k → B ≤ k) : Below B w w' :=
  (Below.refl B w).grown hg hB hr

theorem grown_trans {a b c : World} {row : Option Nat} (h : a.grownBy b row) (k : b.grownBy c row) : a.grownBy c row :=
  ⟨k.os.trans h.os, k.tape.trans h.tape, k.output.trans h.output, Nat.le_trans h.size k.size, fun i hi hn => (k.block i (Nat.lt_of_lt_of_le hi h.size) hn).trans (h.block i hi hn)⟩

/-- What the program's tables say of a slice type's element. -/
structure El (P : Program) (t e : TypeId) (z : Value) (size bytes : Nat) : Prop where
  ht : P.underlying t = some (.slice e)
  hi : (P.info? e).map (fun i => (i.zero, i.size, i.bytes)) = some (some z, size, bytes)
  hzs : z.cells.size = size
  hsz : 0 < size

theorem append_base (w : World) (o : Obj) {base : Nat} {e : TypeId} {s : Nat} {v : Value} {n : Nat} {xs : List Value} (h : w.ownsRow base e s v n xs) : (w.alloc o).ownsRow base e s v n xs := h.alloc o

/-- What an append onto a slice of the call's own does: the slice is the call's own again, in the block where it lay or in a new one. -/
theorem run_app {P : Program} {t e : TypeId} {z : Value} {size bytes : Nat} (E : El P t e z size bytes) (w : World) (ty : TypeId) {base : Nat} {v : Value} {n : Nat} {xs : List Value} (hown : w.ownsRow base e size v n xs)
    {ax : Option Addr} {m c : Nat} {news : List Value} (hl : news.length = m * size) (hsrc : Sl w ax news) (hnone : ax = none → c = 0) (h1 : ∀ u ∈ news, u.oneCell' = true)
    (hn : n + m ≤ 1000000000000) (hby : (n + m) * bytes ≤ 140737488355328) (hbase : base ≤ w.heap.size) :
    ∃ a' cap' w', (Builtin.append_ #[t, t] ty #[v, .slice ax m c]).run P w = .ok (.slice a' (n + m) cap') w' ∧ w'.ownsRow base e size (.slice a' (n + m) cap') (n + m) (xs ++ news) ∧ w.grownBy w' v.ownBlock ∧
      Below base w w' ∧ (∀ k, Value.ownBlock (.slice a' (n + m) cap') = some k → v.ownBlock = some k ∨ w.heap.size ≤ k) := by
  obtain ⟨i, hi, hz0, hz1, hz2⟩ := info_parts E.hi
  have hmax : n + m ≤ maxLen := by unfold maxLen; omega
  have hbel : ∀ w', w.grownBy w' v.ownBlock → Below base w w' := fun w' hg => Below.of_grown hg hbase (fun k hk => (hown.lt k hk).1)
  have key : ∀ ad, (∀ j u, news[j]? = some u → w.cell? (Addr.add ad j) = some u) →
      ∃ a' cap' w', (Builtin.append_ #[t, t] ty #[v, .slice (some ad) m c]).run P w = .ok (.slice a' (n + m) cap') w' ∧ w'.ownsRow base e size (.slice a' (n + m) cap') (n + m) (xs ++ news) ∧ w.grownBy w' v.ownBlock ∧
      Below base w w' ∧ (∀ k, Value.ownBlock (.slice a' (n + m) cap') = some k → v.ownBlock = some k ∨ w.heap.size ≤ k) := by
    intro ad hnews
    obtain ⟨v', w', hr, ho, hg, hnil⟩ := run_append_own (P := P) w base t ty e i z size bytes E.ht hi hz0 hz1 hz2 E.hzs E.hsz v n xs hown ad m c news hl hnews h1 hmax hby hbase
    obtain ⟨a', cap', rfl, _, _⟩ := owns_form ho
    refine ⟨a', cap', w', hr, ho, hg, hbel w' hg, ?_⟩
    intro k hk
    rcases hown.2 with ⟨rfl, rfl⟩ | ⟨g, cap, cur, rfl, hbg, hgg, hnc, hcm, hcs, htake⟩
    · obtain ⟨v2, w2, hr2, ho2, _, _⟩ := run_append_own (P := P) w w.heap.size t ty e i z size bytes E.ht hi hz0 hz1 hz2 E.hzs E.hsz (.slice none 0 0) 0 xs ⟨hown.1, .inl ⟨rfl, rfl⟩⟩ ad m c news hl hnews h1 hmax hby (Nat.le_refl _)
      rw [hr] at hr2
      cases hr2
      exact .inr (ho2.lt k hk).1
    · by_cases hroom : n + m ≤ cap
      · subst hz1
        have hr2 := run_append_room (P := P) w t ty e i E.ht hi g n cap cur hgg ad m c news hl hnews h1 hroom (by rw [hl, hcs, ← Nat.add_mul]; exact Nat.mul_le_mul_right _ hroom)
        rw [hr] at hr2
        cases hr2
        exact .inl hk
      · subst hz1
        subst hz2
        have hr2 := run_append_grow (P := P) w t ty e i z E.ht hi hz0 ⟨g, 0, none⟩ n cap xs hown.1 (hown.cells (g := g) rfl) ad m c news hl hnews (by omega) (by omega) (growslice_fits (by omega) hby)
        rw [hr] at hr2
        cases hr2
        simp [Value.ownBlock] at hk
        exact .inr (by omega)
  rcases hsrc with rfl | ⟨b, off, rfl, hb, hc⟩
  · cases ax with
    | some ad => exact key ad (fun j u hu => by simp at hu)
    | none =>
      have hm : m = 0 := by
        rcases Nat.eq_zero_or_pos m with h | h
        · exact h
        · have := Nat.mul_pos h E.hsz; simp at hl; omega
      subst hm
      rw [hnone rfl]
      have hr := run_append_owned_none (P := P) w base t ty e i size E.ht hi v n xs hown
      obtain ⟨a', cap', rfl, _, _⟩ := owns_form hown
      exact ⟨a', cap', w, hr, by simpa using hown, World.grownBy.refl _ _, Below.refl _ _, fun k hk => .inl hk⟩
  · refine key _ (fun j u hu => ?_)
    obtain ⟨hj, rfl⟩ := List.getElem?_eq_some_iff.1 hu
    rw [← hc j hj, Addr.add_lit]

/-- 's = append(s, xs...)', s the call's own, xs whatever slice. -/
theorem appN {P : Program} {t e : TypeId} {z : Value} {size bytes : Nat} (E : El P t e z size bytes) {W : World} {ops : Array Oper} {rest : List Oper} {o : Oper} {a : Act} {Q : Exit → Act → World → Prop} (s x : Operand)
    (hgd : o.guard = none) (ho : o.op = .call { callee := .builtin .append, args := #[s, x], argTypes := #[t, t] })
    {base : Nat} {v : Value} {n : Nat} {xs : List Value} {ax : Option Addr} {m c : Nat} {news : List Value} (hs : a.eval s = v) (hx : a.eval x = .slice ax m c) (hown : W.ownsRow base e size v n xs)
    (hl : news.length = m * size) (hsrc : Sl W ax news) (hnone : ax = none → c = 0) (h1 : ∀ u ∈ news, u.oneCell' = true)
    (hn : n + m ≤ 1000000000000) (hby : (n + m) * bytes ≤ 140737488355328) (hbase : base ≤ W.heap.size)
    (K : ∀ a' cap' w', w'.ownsRow base e size (.slice a' (n + m) cap') (n + m) (xs ++ news) → W.grownBy w' v.ownBlock → Below base W w' →
      (∀ k, Value.ownBlock (.slice a' (n + m) cap') = some k → v.ownBlock = some k ∨ W.heap.size ≤ k) → wpList P ops Q rest (a.put o.dst (.slice a' (n + m) cap')) w') :
    wpList P ops Q (o :: rest) a W := by
  refine wpList_plain hgd fun K' hK' => ?_
  obtain ⟨a', cap', w', hr, ho', hg, hb, hf⟩ := run_app E W o.type hown hl hsrc hnone h1 hn hby hbase
  unfold Oper.wp execOp
  simp only [ho, resolve, invoke, builtin, Sem.run_bind, Sem.run_pure, Result.andThen_ok, List.map_toArray, List.map_cons, List.map_nil, hs, hx, hr]
  exact hK' _ _ (K a' cap' w' ho' hg hb hf)

/-- 's = append(s, x)', x of one cell, s the call's own. -/
theorem app1 {P : Program} {t e : TypeId} {z : Value} {bytes : Nat} (E : El P t e z 1 bytes) {W : World} {ops : Array Oper} {rest : List Oper} {o : Oper} {a : Act} {Q : Exit → Act → World → Prop} (s x : Operand)
    (hgd : o.guard = none) (ho : o.op = .call { callee := .builtin .append, args := #[s, x], argTypes := #[t, t] })
    {base : Nat} {v : Value} {n : Nat} {xs : List Value} {u : Value} (hs : a.eval s = v) {g : Nat} (hx : a.eval x = .slice (some ⟨g, 0, none⟩) 1 1) (hg : g = W.heap.size) (hown : W.ownsRow base e 1 v n xs) (hu : u.oneCell' = true)
    (hn : n + 1 ≤ 1000000000000) (hby : (n + 1) * bytes ≤ 140737488355328) (hbase : base ≤ W.heap.size)
    (K : ∀ a' cap' w', w'.ownsRow base e 1 (.slice a' (n + 1) cap') (n + 1) (xs ++ [u]) → W.grownBy w' v.ownBlock → Below base W w' →
      (∀ k, Value.ownBlock (.slice a' (n + 1) cap') = some k → v.ownBlock = some k ∨ W.heap.size ≤ k) → wpList P ops Q rest (a.put o.dst (.slice a' (n + 1) cap')) w') :
    wpList P ops Q (o :: rest) a (W.alloc (.cells #[u] e)) := by
  subst hg
  refine appN E s x hgd ho hs hx (hown.alloc _) (news := [u]) rfl ?_ (fun h => by cases h) ?_ hn hby (by simp; omega) ?_
  · refine .inr ⟨W.heap.size, 0, rfl, by simp, fun j hj => ?_⟩
    have : j = 0 := by simp at hj; omega
    subst this
    simp
  · intro y hy; simp at hy; subst hy; exact hu
  · intro a' cap' w' h1 h2 h3 h4
    refine K a' cap' w' h1 (grown_trans (World.grownBy_alloc W _ _) h2) (((Below.refl base W).alloc hbase _).trans h3) (fun k hk => ?_)
    rcases h4 k hk with h | h
    · exact .inl h
    · refine .inr (Nat.le_trans ?_ h); simp

/-- 's = append(s, x ..)', the x laid as a literal block of m elements. -/
theorem appLit {P : Program} {t e : TypeId} {z : Value} {size bytes : Nat} (E : El P t e z size bytes) {W : World} {arr : Array Value} {ops : Array Oper} {rest : List Oper} {o : Oper} {a : Act} {Q : Exit → Act → World → Prop} (s x : Operand)
    (hgd : o.guard = none) (ho : o.op = .call { callee := .builtin .append, args := #[s, x], argTypes := #[t, t] })
    {base : Nat} {v : Value} {n m : Nat} {xs : List Value} (hs : a.eval s = v) {g : Nat} (hx : a.eval x = .slice (some ⟨g, 0, none⟩) m m) (hg : g = W.heap.size) (hown : W.ownsRow base e size v n xs) (hl : arr.toList.length = m * size) (hu : ∀ u ∈ arr.toList, u.oneCell' = true)
    (hn : n + m ≤ 1000000000000) (hby : (n + m) * bytes ≤ 140737488355328) (hbase : base ≤ W.heap.size)
    (K : ∀ a' cap' w', w'.ownsRow base e size (.slice a' (n + m) cap') (n + m) (xs ++ arr.toList) → W.grownBy w' v.ownBlock → Below base W w' →
      (∀ k, Value.ownBlock (.slice a' (n + m) cap') = some k → v.ownBlock = some k ∨ W.heap.size ≤ k) → wpList P ops Q rest (a.put o.dst (.slice a' (n + m) cap')) w') :
    wpList P ops Q (o :: rest) a (W.alloc (.cells arr e)) := by
  subst hg
  refine appN E s x hgd ho hs hx (hown.alloc _) (news := arr.toList) hl ?_ (fun h => by cases h) hu hn hby (by simp; omega) ?_
  · refine .inr ⟨W.heap.size, 0, rfl, by simp, fun j hj => ?_⟩
    simp at hj
    simp [hj]
  · intro a' cap' w' h1 h2 h3 h4
    refine K a' cap' w' h1 (grown_trans (World.grownBy_alloc W _ _) h2) (((Below.refl base W).alloc hbase _).trans h3) (fun k hk => ?_)
    rcases h4 k hk with h | h
    · exact .inl h
    · refine .inr (Nat.le_trans ?_ h); simp

theorem owns_none {w : World} {base : Nat} {e : TypeId} {s : Nat} {a : Option Addr} {m n cap : Nat} {xs : List Value} (h : w.ownsRow base e s (.slice a m cap) n xs) : a = none → cap = 0 := by
  intro ha
  subst ha
  rcases h.2 with ⟨h, _⟩ | ⟨g, c, cur, h, _⟩
  · cases h; rfl
  · cases h

/-- A call that hands back a slice of its own: the slice by its parts, its length under a name. -/
theorem own_ret {P : Program} {f : FuncId} {args : Array Value} {w : World} {B : Nat} {T : TypeId} {s N : Nat} {xs : List Value}
    (h : Calls P f args w fun e w' => ∃ v, e = .returned v ∧ w'.ownsRow B T s v N xs ∧ Below w.heap.size w w') :
    Calls P f args w fun e w' => ∃ a n cap, e = .returned (.slice a n cap) ∧ Hid (n = N) ∧ Sl w' a xs ∧ w'.ownsRow B T s (.slice a n cap) n xs ∧ Below w.heap.size w w' :=
  h.mono fun e w' ⟨v, he, ho, hb⟩ => by
    obtain ⟨a, cap, rfl, hs, _⟩ := owns_form ho
    exact ⟨a, N, cap, he, rfl, hs, ho, hb⟩

theorem below_set {B : Nat} {a w : World} {b o : Nat} {u : Value} (h : Below B a w) (hb : B ≤ b) : Below B a (w.setCell ⟨b, o, none⟩ u) := Below.setCell h (p := ⟨b, o, none⟩) hb u
theorem below_new {B : Nat} {a w : World} {o : Obj} (h : Below B a w) (hb : B ≤ w.heap.size) : Below B a (w.alloc o) := h.alloc hb o

theorem w64 (x : Int) (h : -9223372036854775808 ≤ x ∧ x ≤ 9223372036854775807) : wrap64 x = x := by unfold wrap64; omega

theorem grown_cell {w w' : World} {row : Option Nat} {b o : Nat} {v : Value} (hg : w.grownBy w' row) (h : w.cell? ⟨b, o, none⟩ = some v) (hne : row ≠ some b) : w'.cell? ⟨b, o, none⟩ = some v :=
  hg.cell h (fun e => hne e.symm)

theorem bcell {B : Nat} {W w1 : World} (hb : Below B W w1) : (∀ b o, b < B → w1.cell? ⟨b, o, none⟩ = W.cell? ⟨b, o, none⟩) ∧ (∀ b o, b < B → w1.frozen? ⟨b, o, none⟩ = W.frozen? ⟨b, o, none⟩) :=
  ⟨fun b o h => hb.cell (p := ⟨b, o, none⟩) h, fun b o h => hb.frozen (p := ⟨b, o, none⟩) h⟩
theorem take_snoc {α : Type} (l : List α) (k : Nat) (h : k < l.length) : l.take (k + 1) = l.take k ++ [l[k]] := by
  rw [List.take_succ_eq_append_getElem h]
theorem ret_int {k : IntKind} {a b : Int} (h : a = b) : Ending.returned (.int k a) = .returned (.int k b) := by rw [h]
theorem ret_bool {a b : Bool} (h : a = b) : Ending.returned (.bool a) = .returned (.bool b) := by rw [h]
theorem below_drewN {B : Nat} {a w : World} (h : Below B a w) (n : Nat) : Below B a (w.drewN n) := h.trans ⟨rfl, rfl, rfl, Nat.le_refl _, fun _ _ => rfl⟩
end Go.Proofs.YtchceegpbfecaaaDoor

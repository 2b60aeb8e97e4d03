/-
  The words and small laws that all proofs of this seat use: a slice in memory that reads as a list ('Sl'), what an append does ('app1'), facts hidden from the walk. No condition.
  The dates of the window's days, as plain arithmetic: by the program's formula, and by years and months one behind the other.
  What the small functions of num, civil, feriaref01 and feriaref05 compute, of the window's years.
-/
import Derived.Test.YtbfjceegfpddkaaGreatDoorRows
import Derived.WalkKit
import Derived.ProofKit
import Derived.Deep.QuietTactic
import Derived.BigQuiet
namespace Go.Proofs.YtbfjceegfpddkaaGreatDoor
open Go.RowKit
set_option linter.unusedVariables false

theorem hid {p : Prop} (h : p) : Hid p := h

/-- A slice with address a: its cells, one behind the other, read as cs. -/
def Sl (w : World) (a : Option Addr) (cs : List Value) : Prop :=
  cs = [] ∨ ∃ b off, a = some ⟨b, off, none⟩ ∧ b < w.heap.size ∧ ∀ j (h : j < cs.length), w.cell? ⟨b, off + j, none⟩ = some cs[j]

theorem Sl.nil (w : World) (a : Option Addr) : Sl w a [] := .inl rfl

theorem Sl.below {w w' : World} {a : Option Addr} {cs : List Value} (h : Sl w a cs) (hb : Below w.heap.size w w') : Sl w' a cs := by
  rcases h with h | ⟨b, off, rfl, hlt, hc⟩
  · exact .inl h
  · exact .inr ⟨b, off, rfl, Nat.lt_of_lt_of_le hlt hb.size, fun j hj => (hb.cell (p := ⟨b, off + j, none⟩) hlt).trans (hc j hj)⟩

/-- the same, where the slice's block lies below a smaller bound -/
theorem Sl.at {w : World} {a : Option Addr} {cs : List Value} (h : Sl w a cs) {k : Nat} (hk : k < cs.length) :
    ∃ b off, a = some ⟨b, off, none⟩ ∧ b < w.heap.size ∧ ∀ j (h : j < cs.length), w.cell? ⟨b, off + j, none⟩ = some cs[j] := by
  rcases h with h | h
  · subst h; simp at hk
  · exact h

/-- a slice's length, for a loop's measure -/
def slLen : Value → Nat | .slice _ m _ => m | _ => 0
def ints (l : List Int) : List Value := l.map (Value.int .i64)
theorem ints_one' (x : Int) : ∀ u ∈ [Value.int .i64 x], u.oneCell' = true := by intro u hu; simp at hu; subst hu; rfl
theorem ints_length (l : List Int) : (ints l).length = l.length := by simp [ints]
theorem ints_append (l m : List Int) : ints (l ++ m) = ints l ++ ints m := by simp [ints]
theorem ints_one (x : Int) : ints [x] = [.int .i64 x] := rfl

theorem Sl.atInt {w : World} {a : Option Addr} {l : List Int} (h : Sl w a (ints l)) {k : Nat} (hk : k < l.length) :
    ∃ b off, a = some ⟨b, off, none⟩ ∧ b < w.heap.size ∧ ∀ j (h : j < l.length), w.cell? ⟨b, off + j, none⟩ = some (.int .i64 l[j]) := by
  obtain ⟨b, off, rfl, hlt, hc⟩ := Sl.at h (k := k) (by rw [ints_length]; exact hk)
  refine ⟨b, off, rfl, hlt, fun j hj => ?_⟩
  rw [hc j (by rw [ints_length]; exact hj)]
  simp [ints]

/-- three ints an element -/
def trip (x : Int × Int × Int) : List Value := [.int .i64 x.1, .int .i64 x.2.1, .int .i64 x.2.2]
def trips (l : List (Int × Int × Int)) : List Value := l.flatMap trip
theorem trip_one (x : Int × Int × Int) : ∀ u ∈ trip x, u.oneCell' = true := by
  intro u hu
  simp [trip] at hu
  rcases hu with rfl | rfl | rfl <;> rfl
theorem trips_length (l : List (Int × Int × Int)) : (trips l).length = l.length * 3 := by
  induction l with
  | nil => rfl
  | cons x l ih => simp only [trips, List.flatMap_cons, List.length_append, List.length_cons] at ih ⊢; rw [ih]; simp [trip]; omega
theorem trips_append (l m : List (Int × Int × Int)) : trips (l ++ m) = trips l ++ trips m := by simp [trips]
theorem trips_get (l : List (Int × Int × Int)) : ∀ (k : Nat) (hk : k < l.length),
    (trips l)[k * 3]? = some (.int .i64 l[k].1) ∧ (trips l)[k * 3 + 1]? = some (.int .i64 l[k].2.1) ∧ (trips l)[k * 3 + 2]? = some (.int .i64 l[k].2.2) := by
  induction l with
  | nil => intro k hk; simp at hk
  | cons x l ih =>
    intro k hk
    have e : trips (x :: l) = trip x ++ trips l := by simp [trips]
    cases k with
    | zero => simp [e, trip]
    | succ k =>
      have hk' : k < l.length := by simpa using hk
      obtain ⟨h1, h2, h3⟩ := ih k hk'
      have hl : (trip x).length = 3 := rfl
      refine ⟨?_, ?_, ?_⟩
      · rw [e, List.getElem?_append_right (by rw [hl]; omega), hl, show (k + 1) * 3 - 3 = k * 3 by omega, h1]; simp
      · rw [e, List.getElem?_append_right (by rw [hl]; omega), hl, show (k + 1) * 3 + 1 - 3 = k * 3 + 1 by omega, h2]; simp
      · rw [e, List.getElem?_append_right (by rw [hl]; omega), hl, show (k + 1) * 3 + 2 - 3 = k * 3 + 2 by omega, h3]; simp

theorem Sl.atTrip {w : World} {a : Option Addr} {l : List (Int × Int × Int)} (h : Sl w a (trips l)) {k : Nat} (hk : k < l.length) :
    ∃ b off, a = some ⟨b, off, none⟩ ∧ b < w.heap.size ∧ ∀ j (h : j < l.length), w.cell? ⟨b, off + j * 3, none⟩ = some (.int .i64 l[j].1) ∧
      w.cell? ⟨b, off + j * 3 + 1, none⟩ = some (.int .i64 l[j].2.1) ∧ w.cell? ⟨b, off + j * 3 + 2, none⟩ = some (.int .i64 l[j].2.2) := by
  obtain ⟨b, off, rfl, hlt, hc⟩ := Sl.at h (k := k * 3) (by rw [trips_length]; omega)
  refine ⟨b, off, rfl, hlt, fun j hj => ?_⟩
  have hg := trips_get l j hj
  have get : ∀ m v, (trips l)[m]? = some v → w.cell? ⟨b, off + m, none⟩ = some v := by
    intro m v hm
    obtain ⟨hlm, hv⟩ := List.getElem?_eq_some_iff.1 hm
    rw [hc m hlm, hv]
  exact ⟨get _ _ hg.1, by rw [Nat.add_assoc]; exact get _ _ hg.2.1, by rw [Nat.add_assoc]; exact get _ _ hg.2.2⟩

/-- A slice that the call itself owns, as a slice that reads. -/
theorem owns_form {w : World} {base : Nat} {e : TypeId} {s : Nat} {v : Value} {n : Nat} {xs : List Value} (h : w.ownsRow base e s v n xs) :
    ∃ a cap, v = .slice a n cap ∧ Sl w a xs ∧ n ≤ maxLen := by
  obtain ⟨hl, h⟩ := h
  rcases h with ⟨rfl, rfl⟩ | ⟨g, cap, cur, rfl, hb, hg, hnc, hcm, hcs, ht⟩
  · refine ⟨none, 0, rfl, .inl ?_, by unfold maxLen; omega⟩
    exact List.eq_nil_of_length_eq_zero (by simpa using hl)
  · refine ⟨_, cap, rfl, .inr ⟨g, 0, rfl, (Array.getElem?_eq_some_iff.1 hg).1, fun j hj => ?_⟩, Nat.le_trans hnc hcm⟩
    have := World.ownsRow.cellAt (w := w) (base := base) (e := e) (size := s) (g := g) (n := n) (cap := cap) (xs := xs)
      ⟨hl, .inr ⟨g, cap, cur, rfl, hb, hg, hnc, hcm, hcs, ht⟩⟩ j (by rw [← hl]; exact hj)
    rw [Nat.zero_add, this, List.getElem?_eq_getElem hj]

theorem owns_sl {w : World} {base : Nat} {e : TypeId} {s : Nat} {a : Option Addr} {m n cap : Nat} {xs : List Value} (h : w.ownsRow base e s (.slice a m cap) n xs) : Sl w a xs := by
  obtain ⟨a', c', e, hs, _⟩ := owns_form h
  simp only [Value.slice.injEq] at e
  rw [e.1]; exact hs

theorem owns_below {w w' : World} {base B : Nat} {e : TypeId} {s : Nat} {v : Value} {n : Nat} {xs : List Value} (h : w.ownsRow base e s v n xs) (hb : Below B w w') (hB : w.heap.size ≤ B) : w'.ownsRow base e s v n xs := by
  refine h.kept (row := none) ⟨hb.os, hb.tape, hb.output, hb.size, fun k hk _ => hb.block k (by omega)⟩ ?_
  cases hv : v.ownBlock <;> simp

theorem owns_base {w : World} {base base' : Nat} {e : TypeId} {s : Nat} {v : Value} {n : Nat} {xs : List Value} (h : w.ownsRow base e s v n xs) (hb : base' ≤ base) : w.ownsRow base' e s v n xs := by
  refine ⟨h.1, ?_⟩
  rcases h.2 with h | ⟨g, cap, cur, rfl, hg, r⟩
  · exact .inl h
  · exact .inr ⟨g, cap, cur, rfl, by omega, r⟩

theorem Below.of_grown {B : Nat} {w w' : World} {row : Option Nat} (hg : w.grownBy w' row) (hB : B ≤ w.heap.size) (hr : ∀ k, row = some k → B ≤ k) : Below B w w' :=
  (Below.refl B w).grown hg hB hr

theorem grown_trans {a b c : World} {row : Option Nat} (h : a.grownBy b row) (k : b.grownBy c row) : a.grownBy c row :=
  ⟨k.os.trans h.os, k.tape.trans h.tape, k.output.trans h.output, Nat.le_trans h.size k.size, fun i hi hn => (k.block i (Nat.lt_of_lt_of_le hi h.size) hn).trans (h.block i hi hn)⟩

/-- What the program's tables say of a slice type's element. -/
structure El (P : Program) (t e : TypeId) (z : Value) (size bytes : Nat) : Prop where
  ht : P.underlying t = some (.slice e)
  hi : (P.info? e).map (fun i => (i.zero, i.size, i.bytes)) = some (some z, size, bytes)
  hzs : z.cells.size = size
  hsz : 0 < size

theorem append_base (w : World) (o : Obj) {base : Nat} {e : TypeId} {s : Nat} {v : Value} {n : Nat} {xs : List Value} (h : w.ownsRow base e s v n xs) : (w.alloc o).ownsRow base e s v n xs := h.alloc o

/-- What an append onto a slice of the call's own does: the slice is the call's own again, in the block where it lay or in a new one. -/
theorem run_app {P : Program} {t e : TypeId} {z : Value} {size bytes : Nat} (E : El P t e z size bytes) (w : World) (ty : TypeId) {base : Nat} {v : Value} {n : Nat} {xs : List Value} (hown : w.ownsRow base e size v n xs)
    {ax : Option Addr} {m c : Nat} {news : List Value} (hl : news.length = m * size) (hsrc : Sl w ax news) (hnone : ax = none → c = 0) (h1 : ∀ u ∈ news, u.oneCell' = true)
    (hn : n + m ≤ 1000000000000) (hby : (n + m) * bytes ≤ 140737488355328) (hbase : base ≤ w.heap.size) :
    ∃ a' cap' w', (Builtin.append_ #[t, t] ty #[v, .slice ax m c]).run P w = .ok (.slice a' (n + m) cap') w' ∧ w'.ownsRow base e size (.slice a' (n + m) cap') (n + m) (xs ++ news) ∧ w.grownBy w' v.ownBlock ∧
      Below base w w' ∧ (∀ k, Value.ownBlock (.slice a' (n + m) cap') = some k → v.ownBlock = some k ∨ w.heap.size ≤ k) := by
  obtain ⟨i, hi, hz0, hz1, hz2⟩ := info_parts E.hi
  have hmax : n + m ≤ maxLen := by unfold maxLen; omega
  have hbel : ∀ w', w.grownBy w' v.ownBlock → Below base w w' := fun w' hg => Below.of_grown hg hbase (fun k hk => (hown.lt k hk).1)
  have key : ∀ ad, (∀ j u, news[j]? = some u → w.cell? (Addr.add ad j) = some u) →
      ∃ a' cap' w', (Builtin.append_ #[t, t] ty #[v, .slice (some ad) m c]).run P w = .ok (.slice a' (n + m) cap') w' ∧ w'.ownsRow base e size (.slice a' (n + m) cap') (n + m) (xs ++ news) ∧ w.grownBy w' v.ownBlock ∧
      Below base w w' ∧ (∀ k, Value.ownBlock (.slice a' (n + m) cap') = some k → v.ownBlock = some k ∨ w.heap.size ≤ k) := by
    intro ad hnews
    obtain ⟨v', w', hr, ho, hg, hnil⟩ := run_append_own (P := P) w base t ty e i z size bytes E.ht hi hz0 hz1 hz2 E.hzs E.hsz v n xs hown ad m c news hl hnews h1 hmax hby hbase
    obtain ⟨a', cap', rfl, _, _⟩ := owns_form ho
    refine ⟨a', cap', w', hr, ho, hg, hbel w' hg, ?_⟩
    intro k hk
    rcases hown.2 with ⟨rfl, rfl⟩ | ⟨g, cap, cur, rfl, hbg, hgg, hnc, hcm, hcs, htake⟩
    · obtain ⟨v2, w2, hr2, ho2, _, _⟩ := run_append_own (P := P) w w.heap.size t ty e i z size bytes E.ht hi hz0 hz1 hz2 E.hzs E.hsz (.slice none 0 0) 0 xs ⟨hown.1, .inl ⟨rfl, rfl⟩⟩ ad m c news hl hnews h1 hmax hby (Nat.le_refl _)
      rw [hr] at hr2
      cases hr2
      exact .inr (ho2.lt k hk).1
    · by_cases hroom : n + m ≤ cap
      · subst hz1
        have hr2 := run_append_room (P := P) w t ty e i E.ht hi g n cap cur hgg ad m c news hl hnews h1 hroom (by rw [hl, hcs, ← Nat.add_mul]; exact Nat.mul_le_mul_right _ hroom)
        rw [hr] at hr2
        cases hr2
        exact .inl hk
      · subst hz1
        subst hz2
        have hr2 := run_append_grow (P := P) w t ty e i z E.ht hi hz0 ⟨g, 0, none⟩ n cap xs hown.1 (hown.cells (g := g) rfl) ad m c news hl hnews (by omega) (by omega) (growslice_fits (by omega) hby)
        rw [hr] at hr2
        cases hr2
        simp [Value.ownBlock] at hk
        exact .inr (by omega)
  rcases hsrc with rfl | ⟨b, off, rfl, hb, hc⟩
  · cases ax with
    | some ad => exact key ad (fun j u hu => by simp at hu)
    | none =>
      have hm : m = 0 := by
        rcases Nat.eq_zero_or_pos m with h | h
        · exact h
        · have := Nat.mul_pos h E.hsz; simp at hl; omega
      subst hm
      rw [hnone rfl]
      have hr := run_append_owned_none (P := P) w base t ty e i size E.ht hi v n xs hown
      obtain ⟨a', cap', rfl, _, _⟩ := owns_form hown
      exact ⟨a', cap', w, hr, by simpa using hown, World.grownBy.refl _ _, Below.refl _ _, fun k hk => .inl hk⟩
  · refine key _ (fun j u hu => ?_)
    obtain ⟨hj, rfl⟩ := List.getElem?_eq_some_iff.1 hu
    rw [← hc j hj, Addr.add_lit]

/-- 's = append(s, xs...)', s the call's own, xs whatever slice. -/
theorem appN {P : Program} {t e : TypeId} {z : Value} {size bytes : Nat} (E : El P t e z size bytes) {W : World} {ops : Array Oper} {rest : List Oper} {o : Oper} {a : Act} {Q : Exit → Act → World → Prop} (s x : Operand)
    (hgd : o.guard = none) (ho : o.op = .call { callee := .builtin .append, args := #[s, x], argTypes := #[t, t] })
    {base : Nat} {v : Value} {n : Nat} {xs : List Value} {ax : Option Addr} {m c : Nat} {news : List Value} (hs : a.eval s = v) (hx : a.eval x = .slice ax m c) (hown : W.ownsRow base e size v n xs)
    (hl : news.length = m * size) (hsrc : Sl W ax news) (hnone : ax = none → c = 0) (h1 : ∀ u ∈ news, u.oneCell' = true)
    (hn : n + m ≤ 1000000000000) (hby : (n + m) * bytes ≤ 140737488355328) (hbase : base ≤ W.heap.size)
    (K : ∀ a' cap' w', w'.ownsRow base e size (.slice a' (n + m) cap') (n + m) (xs ++ news) → W.grownBy w' v.ownBlock → Below base W w' →
      (∀ k, Value.ownBlock (.slice a' (n + m) cap') = some k → v.ownBlock = some k ∨ W.heap.size ≤ k) → wpList P ops Q rest (a.put o.dst (.slice a' (n + m) cap')) w') :
    wpList P ops Q (o :: rest) a W := by
  refine wpList_plain hgd fun K' hK' => ?_
  obtain ⟨a', cap', w', hr, ho', hg, hb, hf⟩ := run_app E W o.type hown hl hsrc hnone h1 hn hby hbase
  unfold Oper.wp execOp
  simp only [ho, resolve, invoke, builtin, Sem.run_bind, Sem.run_pure, Result.andThen_ok, List.map_toArray, List.map_cons, List.map_nil, hs, hx, hr]
  exact hK' _ _ (K a' cap' w' ho' hg hb hf)

/-- 's = append(s, x)', x of one cell, s the call's own. -/
theorem app1 {P : Program} {t e : TypeId} {z : Value} {bytes : Nat} (E : El P t e z 1 bytes) {W : World} {ops : Array Oper} {rest : List Oper} {o : Oper} {a : Act} {Q : Exit → Act → World → Prop} (s x : Operand)
    (hgd : o.guard = none) (ho : o.op = .call { callee := .builtin .append, args := #[s, x], argTypes := #[t, t] })
    {base : Nat} {v : Value} {n : Nat} {xs : List Value} {u : Value} (hs : a.eval s = v) {g : Nat} (hx : a.eval x = .slice (some ⟨g, 0, none⟩) 1 1) (hg : g = W.heap.size) (hown : W.ownsRow base e 1 v n xs) (hu : u.oneCell' = true)
    (hn : n + 1 ≤ 1000000000000) (hby : (n + 1) * bytes ≤ 140737488355328) (hbase : base ≤ W.heap.size)
    (K : ∀ a' cap' w', w'.ownsRow base e 1 (.slice a' (n + 1) cap') (n + 1) (xs ++ [u]) → W.grownBy w' v.ownBlock → Below base W w' →
      (∀ k, Value.ownBlock (.slice a' (n + 1) cap') = some k → v.ownBlock = some k ∨ W.heap.size ≤ k) → wpList P ops Q rest (a.put o.dst (.slice a' (n + 1) cap')) w') :
    wpList P ops Q (o :: rest) a (W.alloc (.cells #[u] e)) := by
  subst hg
  refine appN E s x hgd ho hs hx (hown.alloc _) (news := [u]) rfl ?_ (fun h => by cases h) ?_ hn hby (by simp; omega) ?_
  · refine .inr ⟨W.heap.size, 0, rfl, by simp, fun j hj => ?_⟩
    have : j = 0 := by simp at hj; omega
    subst this
    simp
  · intro y hy; simp at hy; subst hy; exact hu
  · intro a' cap' w' h1 h2 h3 h4
    refine K a' cap' w' h1 (grown_trans (World.grownBy_alloc W _ _) h2) (((Below.refl base W).alloc hbase _).trans h3) (fun k hk => ?_)
    rcases h4 k hk with h | h
    · exact .inl h
    · refine .inr (Nat.le_trans ?_ h); simp

/-- 's = append(s, x ..)', the x laid as a literal block of m elements. -/
theorem appLit {P : Program} {t e : TypeId} {z : Value} {size bytes : Nat} (E : El P t e z size bytes) {W : World} {arr : Array Value} {ops : Array Oper} {rest : List Oper} {o : Oper} {a : Act} {Q : Exit → Act → World → Prop} (s x : Operand)
    (hgd : o.guard = none) (ho : o.op = .call { callee := .builtin .append, args := #[s, x], argTypes := #[t, t] })
    {base : Nat} {v : Value} {n m : Nat} {xs : List Value} (hs : a.eval s = v) {g : Nat} (hx : a.eval x = .slice (some ⟨g, 0, none⟩) m m) (hg : g = W.heap.size) (hown : W.ownsRow base e size v n xs) (hl : arr.toList.length = m * size) (hu : ∀ u ∈ arr.toList, u.oneCell' = true)
    (hn : n + m ≤ 1000000000000) (hby : (n + m) * bytes ≤ 140737488355328) (hbase : base ≤ W.heap.size)
    (K : ∀ a' cap' w', w'.ownsRow base e size (.slice a' (n + m) cap') (n + m) (xs ++ arr.toList) → W.grownBy w' v.ownBlock → Below base W w' →
      (∀ k, Value.ownBlock (.slice a' (n + m) cap') = some k → v.ownBlock = some k ∨ W.heap.size ≤ k) → wpList P ops Q rest (a.put o.dst (.slice a' (n + m) cap')) w') :
    wpList P ops Q (o :: rest) a (W.alloc (.cells arr e)) := by
  subst hg
  refine appN E s x hgd ho hs hx (hown.alloc _) (news := arr.toList) hl ?_ (fun h => by cases h) hu hn hby (by simp; omega) ?_
  · refine .inr ⟨W.heap.size, 0, rfl, by simp, fun j hj => ?_⟩
    simp at hj
    simp [hj]
  · intro a' cap' w' h1 h2 h3 h4
    refine K a' cap' w' h1 (grown_trans (World.grownBy_alloc W _ _) h2) (((Below.refl base W).alloc hbase _).trans h3) (fun k hk => ?_)
    rcases h4 k hk with h | h
    · exact .inl h
    · refine .inr (Nat.le_trans ?_ h); simp

theorem owns_none {w : World} {base : Nat} {e : TypeId} {s : Nat} {a : Option Addr} {m n cap : Nat} {xs : List Value} (h : w.ownsRow base e s (.slice a m cap) n xs) : a = none → cap = 0 := by
  intro ha
  subst ha
  rcases h.2 with ⟨h, _⟩ | ⟨g, c, cur, h, _⟩
  · cases h; rfl
  · cases h

/-- A call that hands back a slice of its own: the slice by its parts, its length under a name. -/
theorem own_ret {P : Program} {f : FuncId} {args : Array Value} {w : World} {B : Nat} {T : TypeId} {s N : Nat} {xs : List Value}
    (h : Calls P f args w fun e w' => ∃ v, e = .returned v ∧ w'.ownsRow B T s v N xs ∧ Below w.heap.size w w') :
    Calls P f args w fun e w' => ∃ a n cap, e = .returned (.slice a n cap) ∧ Hid (n = N) ∧ Sl w' a xs ∧ w'.ownsRow B T s (.slice a n cap) n xs ∧ Below w.heap.size w w' :=
  h.mono fun e w' ⟨v, he, ho, hb⟩ => by
    obtain ⟨a, cap, rfl, hs, _⟩ := owns_form ho
    exact ⟨a, N, cap, he, rfl, hs, ho, hb⟩

theorem below_set {B : Nat} {a w : World} {b o : Nat} {u : Value} (h : Below B a w) (hb : B ≤ b) : Below B a (w.setCell ⟨b, o, none⟩ u) := Below.setCell h (p := ⟨b, o, none⟩) hb u
theorem below_new {B : Nat} {a w : World} {o : Obj} (h : Below B a w) (hb : B ≤ w.heap.size) : Below B a (w.alloc o) := h.alloc hb o

theorem w64 (x : Int) (h : -9223372036854775808 ≤ x ∧ x ≤ 9223372036854775807) : wrap64 x = x := by unfold wrap64; omega

theorem grown_cell {w w' : World} {row : Option Nat} {b o : Nat} {v : Value} (hg : w.grownBy w' row) (h : w.cell? ⟨b, o, none⟩ = some v) (hne : row ≠ some b) : w'.cell? ⟨b, o, none⟩ = some v :=
  hg.cell h (fun e => hne e.symm)

theorem bcell {B : Nat} {W w1 : World} (hb : Below B W w1) : (∀ b o, b < B → w1.cell? ⟨b, o, none⟩ = W.cell? ⟨b, o, none⟩) ∧ (∀ b o, b < B → w1.frozen? ⟨b, o, none⟩ = W.frozen? ⟨b, o, none⟩) :=
  ⟨fun b o h => hb.cell (p := ⟨b, o, none⟩) h, fun b o h => hb.frozen (p := ⟨b, o, none⟩) h⟩
theorem take_snoc {α : Type} (l : List α) (k : Nat) (h : k < l.length) : l.take (k + 1) = l.take k ++ [l[k]] := by
  rw [List.take_succ_eq_append_getElem h]
theorem ret_int {k : IntKind} {a b : Int} (h : a = b) : Ending.returned (.int k a) = .returned (.int k b) := by rw [h]
theorem ret_bool {a b : Bool} (h : a = b) : Ending.returned (.bool a) = .returned (.bool b) := by rw [h]
theorem below_drewN {B : Nat} {a w : World} (h : Below B a w) (n : Nat) : Below B a (w.drewN n) := h.trans ⟨rfl, rfl, rfl, Nat.le_refl _, fun _ _ => rfl⟩
end Go.Proofs.YtbfjceegfpddkaaGreatDoor
namespace Go.Proofs.YtbfjceegfpddkaaGreatDoor
open Go.RowKit
set_option linter.unusedVariables false

/-! ### years of 400 years -/
def cg (o : Nat) : Nat := o - o / 1460 + o / 36524 - o / 146096
def cst (k : Nat) : Nat := 365 * k + k / 4 - k / 100
def cen (k : Nat) : Nat := if k = 399 then 146097 else cst (k + 1)
theorem cg_step (o : Nat) : cg o ≤ cg (o + 1) := by unfold cg; omega
theorem cg_mono (a : Nat) : ∀ d, cg a ≤ cg (a + d)
  | 0 => Nat.le_refl _
  | d + 1 => Nat.le_trans (cg_mono a d) (cg_step (a + d))
theorem cg_ends : ∀ k, k < 400 → 365 * k ≤ cg (cst k) ∧ cg (cen k - 1) < 365 * (k + 1) := by decide +kernel
theorem cg_at (k o : Nat) (hk : k < 400) (h1 : cst k ≤ o) (h2 : o < cen k) : cg o / 365 = k := by
  obtain ⟨e1, e2⟩ := cg_ends k hk
  have m1 := cg_mono (cst k) (o - cst k)
  have m2 := cg_mono o (cen k - 1 - o)
  rw [show cst k + (o - cst k) = o by omega] at m1
  rw [show o + (cen k - 1 - o) = cen k - 1 by omega] at m2
  omega
theorem cst_find (o : Nat) : ∀ m, m < 400 → o < cen m → ∃ k, k < 400 ∧ cst k ≤ o ∧ o < cen k
  | 0, _, h => ⟨0, by omega, by simp [cst], h⟩
  | m + 1, hm, h => by
    by_cases h0 : cst (m + 1) ≤ o
    · exact ⟨m + 1, hm, h0, h⟩
    · refine cst_find o m (by omega) ?_
      unfold cen
      rw [if_neg (by omega)]; omega

/-! ### months -/
/-- is a year a leap year: 1 or 0 -/
def leapI (y : Int) : Int := y / 4 - (y - 1) / 4 - (y / 100 - (y - 1) / 100) + (y / 400 - (y - 1) / 400)
theorem leapI_bd (y : Int) : leapI y = 0 ∨ leapI y = 1 := by unfold leapI; omega
theorem leapI_iff (y : Int) : leapI y = 1 ↔ y % 4 = 0 ∧ (y % 100 ≠ 0 ∨ y % 400 = 0) := by unfold leapI; omega
def leapB (y : Int) : Bool := decide (y % 4 = 0 ∧ (y % 100 ≠ 0 ∨ y % 400 = 0))
theorem leapB_I (y : Int) : (leapB y = true ∧ leapI y = 1) ∨ (leapB y = false ∧ leapI y = 0) := by
  have h := leapI_iff y
  rcases leapI_bd y with h0 | h0
  · refine .inr ⟨decide_eq_false fun hh => ?_, h0⟩
    have := h.mpr hh; omega
  · exact .inl ⟨decide_eq_true (h.mp h0), h0⟩
/-- how many days a month has -/
def lenI (y m : Int) : Int := if m = 2 then 28 + leapI y else if m = 4 ∨ m = 6 ∨ m = 9 ∨ m = 11 then 30 else 31
/-- the days ahead of a month -/
def msI (y : Int) : Nat → Int
  | 0 => 0 | 1 => 0 | 2 => 31 | 3 => 59 + leapI y | 4 => 90 + leapI y | 5 => 120 + leapI y | 6 => 151 + leapI y | 7 => 181 + leapI y | 8 => 212 + leapI y | 9 => 243 + leapI y | 10 => 273 + leapI y | 11 => 304 + leapI y | _ => 334 + leapI y
/-- the days from 1970 ahead of a year -/
def ysI (y : Int) : Int := 365 * (y - 1970) + (y - 1) / 4 - (y - 1) / 100 + (y - 1) / 400 - 477
theorem ysI_next (y : Int) : ysI (y + 1) = ysI y + 365 + leapI y := by
  unfold ysI leapI; rw [show y + 1 - 1 = y by omega]; omega
theorem ysI_first : ysI 1970 = 0 := by decide
theorem msI_next (y : Int) (m : Nat) (h1 : 1 ≤ m) (h2 : m < 12) : msI y (m + 1) = msI y m + lenI y m := by
  have : m = 1 ∨ m = 2 ∨ m = 3 ∨ m = 4 ∨ m = 5 ∨ m = 6 ∨ m = 7 ∨ m = 8 ∨ m = 9 ∨ m = 10 ∨ m = 11 := by omega
  rcases this with rfl | rfl | rfl | rfl | rfl | rfl | rfl | rfl | rfl | rfl | rfl <;> simp [msI, lenI] <;> omega
theorem msI_last (y : Int) : msI y 12 + lenI y 12 = 365 + leapI y := by simp [msI, lenI]; omega
theorem lenI_bd (y m : Int) : 28 ≤ lenI y m ∧ lenI y m ≤ 31 := by
  have := leapI_bd y
  unfold lenI
  split
  · omega
  · split <;> omega

/-- y, m, d is the date of day n -/
structure IsDate (n y : Int) (m : Nat) (d : Int) : Prop where
  y0 : 1970 ≤ y
  y1 : y ≤ 2369
  m0 : 1 ≤ m
  m1 : m ≤ 12
  d0 : 1 ≤ d
  d1 : d ≤ lenI y m
  sum : ysI y + msI y m + d - 1 = n
theorem msI_bd {y : Int} {m : Nat} {d : Int} (h1 : 1 ≤ m) (h2 : m ≤ 12) (d0 : 1 ≤ d) (d1 : d ≤ lenI y m) : 0 ≤ msI y m + d - 1 ∧ msI y m + d - 1 < 365 + leapI y := by
  have hl := leapI_bd y
  have : m = 1 ∨ m = 2 ∨ m = 3 ∨ m = 4 ∨ m = 5 ∨ m = 6 ∨ m = 7 ∨ m = 8 ∨ m = 9 ∨ m = 10 ∨ m = 11 ∨ m = 12 := by omega
  rcases this with rfl | rfl | rfl | rfl | rfl | rfl | rfl | rfl | rfl | rfl | rfl | rfl <;> simp [msI, lenI] at d1 ⊢ <;> omega
theorem ysI_mono (y : Int) (d : Nat) : ysI y + 365 * d ≤ ysI (y + d) := by
  induction d with
  | zero => simp
  | succ d ih =>
    have := ysI_next (y + d)
    have hl := leapI_bd (y + d)
    rw [show y + ((d + 1 : Nat) : Int) = y + d + 1 by omega]; omega
theorem ysI_lt {y z : Int} (h : y < z) : ysI y + 365 + leapI y ≤ ysI z := by
  have := ysI_mono (y + 1) (z - (y + 1)).toNat
  have h2 := ysI_next y
  rw [show y + 1 + ((z - (y + 1)).toNat : Int) = z by omega] at this
  omega
theorem msI_lt {y : Int} {m k : Nat} (h1 : 1 ≤ m) (h : m < k) (h2 : k ≤ 12) : msI y m + lenI y m ≤ msI y k := by
  have hl := leapI_bd y
  rw [← msI_next y m h1 (by omega)]
  obtain ⟨d, rfl⟩ : ∃ d, k = m + 1 + d := ⟨k - (m + 1), by omega⟩
  induction d with
  | zero => exact Int.le_refl _
  | succ d ih =>
    have := ih (by omega) (by omega)
    have h3 := msI_next y (m + 1 + d) (by omega) (by omega)
    have h4 := lenI_bd y ((m + 1 + d : Nat) : Int)
    rw [show m + 1 + (d + 1) = m + 1 + d + 1 by omega, h3]; omega
theorem IsDate.unique {n y z : Int} {m k : Nat} {d e : Int} (h : IsDate n y m d) (g : IsDate n z k e) : y = z ∧ m = k ∧ d = e := by
  obtain ⟨_, _, a1, a2, a3, a4, a5⟩ := h
  obtain ⟨_, _, b1, b2, b3, b4, b5⟩ := g
  have u := msI_bd a1 a2 a3 a4
  have v := msI_bd b1 b2 b3 b4
  have hyz : y = z := by
    rcases Int.lt_trichotomy y z with h | h | h
    · have := ysI_lt h; omega
    · exact h
    · have := ysI_lt h; omega
  subst hyz
  have hmk : m = k := by
    rcases Nat.lt_trichotomy m k with h | h | h
    · have := msI_lt (y := y) a1 h b2; omega
    · exact h
    · have := msI_lt (y := y) b1 h a2; omega
  subst hmk
  exact ⟨rfl, rfl, by omega⟩

/-! ### the program's formula -/
def fN (n : Int) : Int := n + 719468
def fO (n : Int) : Int := fN n % 146097
def fK (n : Int) : Int := (fO n - fO n / 1460 + fO n / 36524 - fO n / 146096) / 365
def fL (n : Int) : Int := fO n - (fK n * 365 + fK n / 4 - fK n / 100)
def fM (n : Int) : Int := (5 * fL n + 2) / 153
def fD (n : Int) : Int := fL n - (153 * fM n + 2) / 5 + 1
def fMo (n : Int) : Int := (fM n + 2) % 12 + 1
def fY (n : Int) : Int := fN n / 146097 * 400 + fK n + (if fMo n ≤ 2 then 1 else 0)
theorem fK_spec (n : Int) : ∃ k : Nat, k < 400 ∧ fK n = k ∧ (cst k : Int) ≤ fO n ∧ fO n < cen k := by
  obtain ⟨o, ho⟩ : ∃ o : Nat, fO n = o := ⟨(fO n).toNat, by unfold fO; omega⟩
  have hlt : o < 146097 := by unfold fO at ho; omega
  obtain ⟨k, hk, h1, h2⟩ := cst_find o 399 (by omega) (by simpa [cen] using hlt)
  refine ⟨k, hk, ?_, by rw [ho]; omega, by rw [ho]; omega⟩
  have := cg_at k o hk h1 h2
  unfold fK
  rw [ho]
  unfold cg at this
  omega
theorem fDate (n : Int) (h0 : 0 ≤ n) (h1 : n < 146097) : ∃ m : Nat, fMo n = m ∧ IsDate n (fY n) m (fD n) ∧ 0 ≤ fK n ∧ fK n < 400 ∧ 0 ≤ fL n ∧ fL n < 366 := by
  obtain ⟨k, hk, eK, c1, c2⟩ := fK_spec n
  have hera : (fN n / 146097 = 4 ∧ fO n = n + 135080) ∨ (fN n / 146097 = 5 ∧ fO n = n - 11017) := by unfold fO fN; omega
  have hcst : (cst k : Int) = 365 * k + k / 4 - k / 100 := by unfold cst; omega
  have hcen : (cen k : Int) = if k = 399 then 146097 else 365 * (k + 1) + ((k : Int) + 1) / 4 - ((k : Int) + 1) / 100 := by
    unfold cen cst; split <;> omega
  have hL : fL n = fO n - (365 * k + (k : Int) / 4 - k / 100) := by unfold fL; rw [eK]; omega
  have hL0 : 0 ≤ fL n := by omega
  have hL1 : fL n < 366 := by split at hcen <;> omega
  obtain ⟨L, hLL⟩ : ∃ L, fL n = L := ⟨_, rfl⟩
  have hyear : ∀ e : Int, (e = 4 ∨ e = 5) → fN n / 146097 = e → (fN n / 146097 * 400 + fK n) = 400 * e + k := by intro e _ h; rw [h, eK]; omega
  obtain ⟨e, he, hfe, hoe⟩ : ∃ e : Int, (e = 4 ∨ e = 5) ∧ fN n / 146097 = e ∧ fO n = n + 719468 - 146097 * e := by
    rcases hera with ⟨a, b⟩ | ⟨a, b⟩
    · exact ⟨4, .inl rfl, a, by omega⟩
    · exact ⟨5, .inr rfl, a, by omega⟩
  have hmp : fM n = (5 * L + 2) / 153 := by unfold fM; rw [hLL]
  obtain ⟨M, hM⟩ : ∃ M, fM n = M := ⟨_, rfl⟩
  have hMb : 0 ≤ M ∧ M ≤ 11 := by omega
  have hD : fD n = L - (153 * M + 2) / 5 + 1 := by unfold fD; rw [hLL, hM]
  have hMo : fMo n = (M + 2) % 12 + 1 := by unfold fMo; rw [hM]
  have hY : fY n = 400 * e + k + (if (M + 2) % 12 + 1 ≤ 2 then 1 else 0) := by unfold fY; rw [hMo, hfe, eK]; split <;> omega
  rw [hLL] at hL hL0 hL1
  rw [hM] at hmp
  rw [hoe] at hL c1 c2
  rw [hcst] at c1
  rw [hcen] at c2
  have fin : 0 ≤ fK n ∧ fK n < 400 ∧ 0 ≤ fL n ∧ fL n < 366 := by omega
  refine ⟨((M + 2) % 12 + 1).toNat, by rw [hMo]; omega, ?_, fin⟩
  clear fin
  have : M = 0 ∨ M = 1 ∨ M = 2 ∨ M = 3 ∨ M = 4 ∨ M = 5 ∨ M = 6 ∨ M = 7 ∨ M = 8 ∨ M = 9 ∨ M = 10 ∨ M = 11 := by omega
  have hk9 : (k : Int) ≤ 399 := by omega
  have hk0 : (0 : Int) ≤ k := by omega
  obtain ⟨K, hK⟩ : ∃ K : Int, (k : Int) = K := ⟨_, rfl⟩
  have hc2 : n + 719468 - 146097 * e < 365 * (K + 1) + (K + 1) / 4 - (K + 1) / 100 + (if K = 399 then 1 else 0) := by
    rw [← hK]; split at c2 <;> rename_i h5
    · subst h5; simp; omega
    · rw [if_neg (by omega)]; omega
  rw [hK] at c1 hL hY hk9 hk0
  clear c2 hyear hera hcst hcen hfe hoe hLL hM eK hk hK
  have hif : (if K = 399 then (1 : Int) else 0) = 1 ∧ K = 399 ∨ (if K = 399 then (1 : Int) else 0) = 0 ∧ K ≠ 399 := by
    by_cases h : K = 399
    · exact .inl ⟨if_pos h, h⟩
    · exact .inr ⟨if_neg h, h⟩
  obtain ⟨I, hI⟩ : ∃ I, (if K = 399 then (1 : Int) else 0) = I := ⟨_, rfl⟩
  rw [hI] at hc2 hif
  clear hI
  obtain ⟨Y, hYY⟩ : ∃ Y, 400 * e + K = Y := ⟨_, rfl⟩
  have A : Y / 4 = 100 * e + K / 4 ∧ Y / 100 = 4 * e + K / 100 ∧ Y / 400 = e := by omega
  have B : (Y + 1) / 4 = 100 * e + (K + 1) / 4 ∧ (Y + 1) / 100 = 4 * e + (K + 1) / 100 ∧ (Y + 1) / 400 = e + I := by omega
  have H1 : ysI Y + leapI Y = 365 * (Y - 1970) + (100 * e + K / 4) - (4 * e + K / 100) + e - 477 := by
    unfold ysI leapI; rw [A.1, A.2.1, A.2.2]; omega
  have H2 : ysI (Y + 1) = 365 * (Y + 1 - 1970) + (100 * e + K / 4) - (4 * e + K / 100) + e - 477 := by
    unfold ysI; rw [show Y + 1 - 1 = Y by omega, A.1, A.2.1, A.2.2]
  have H3 : leapI (Y + 1) = (K + 1) / 4 - K / 4 - ((K + 1) / 100 - K / 100) + I := by
    unfold leapI; rw [show Y + 1 - 1 = Y by omega, A.1, A.2.1, A.2.2, B.1, B.2.1, B.2.2]; omega
  have H4 : 2369 ≤ Y → 146097 ≤ ysI (Y + 1) := fun h => by
    have h1 := ysI_mono 2370 (Y + 1 - 2370).toNat
    have h2 : ysI 2370 = 146097 := by decide
    rw [show (2370 : Int) + ((Y + 1 - 2370).toNat : Int) = Y + 1 by omega] at h1
    omega
  rw [hY, hD, hYY]
  clear hY hD hMo hMb A B
  rcases this with rfl | rfl | rfl | rfl | rfl | rfl | rfl | rfl | rfl | rfl | rfl | rfl
  all_goals
    refine ⟨?_, ?_, by decide, by decide, ?_, ?_, ?_⟩ <;> simp [lenI, msI] <;> omega
theorem fDate_year {n : Int} (h0 : 0 ≤ n) (h1 : n < 146097) : 1970 ≤ fY n ∧ fY n ≤ 2369 ∧ 1 ≤ fMo n ∧ fMo n ≤ 12 ∧ 1 ≤ fD n ∧ fD n ≤ lenI (fY n) (fMo n) := by
  obtain ⟨m, e, hd, _⟩ := fDate n h0 h1
  rw [e]
  exact ⟨hd.y0, hd.y1, by have := hd.m0; omega, by have := hd.m1; omega, hd.d0, hd.d1⟩
end Go.Proofs.YtbfjceegfpddkaaGreatDoor
namespace Go.Proofs.YtbfjceegfpddkaaGreatDoor
open Go.RowKit
set_option linter.unusedVariables false

theorem Floor_pos (a b : Int) (w : World) (ha : 0 ≤ a) (hb : 1 ≤ b) (ha2 : a ≤ 9223372036854775807) : Calls Tryz.prog 141 #[.int .i64 a, .int .i64 b] w fun e w' => e = .returned (.int .i64 (a / b)) ∧ w = w' := by
  have h1 : ¬ b < 1 := by omega
  have h2 : ¬ a % b < 0 := by have := Int.emod_nonneg a (show b ≠ 0 by omega); omega
  have h3 : a / b ≤ a := Int.ediv_le_self b ha
  have h4 : 0 ≤ a / b := Int.ediv_nonneg ha (by omega)
  go_enter Tryz.func141, Tryz.ntmps141
  go_wp2
  go_ret
  exact ⟨rfl, rfl⟩
theorem RFloor_pos (a b : Int) (w : World) (ha : 0 ≤ a) (hb : 1 ≤ b) (ha2 : a ≤ 9223372036854775807) : Calls Tryz.prog 64 #[.int .i64 a, .int .i64 b] w fun e w' => e = .returned (.int .i64 (a / b)) ∧ w = w' := by
  have h1 : ¬ b < 1 := by omega
  have h2 : ¬ a % b < 0 := by have := Int.emod_nonneg a (show b ≠ 0 by omega); omega
  have h3 : a / b ≤ a := Int.ediv_le_self b ha
  have h4 : 0 ≤ a / b := Int.ediv_nonneg ha (by omega)
  go_enter Tryz.func64, Tryz.ntmps64
  go_wp2
  go_ret
  exact ⟨rfl, rfl⟩
theorem Mod_pos (a b : Int) (w : World) (ha : 0 ≤ a) (hb : 1 ≤ b) : Calls Tryz.prog 79 #[.int .i64 a, .int .i64 b] w fun e w' => e = .returned (.int .i64 (a % b)) ∧ w = w' := by
  have h1 : ¬ b < 1 := by omega
  have h2 : ¬ a % b < 0 := by have := Int.emod_nonneg a (show b ≠ 0 by omega); omega
  go_enter Tryz.func79, Tryz.ntmps79
  go_wp2
  go_ret
  exact ⟨rfl, rfl⟩
theorem RMod_pos (a b : Int) (w : World) (ha : 0 ≤ a) (hb : 1 ≤ b) (ha2 : a ≤ 9223372036854775807) : Calls Tryz.prog 66 #[.int .i64 a, .int .i64 b] w fun e w' => e = .returned (.int .i64 (a % b)) ∧ w = w' := by
  have c1 := hid (RFloor_pos a b w ha hb ha2)
  have h1 : ¬ b < 1 := by omega
  have h3 : b * (a / b) ≤ a := Int.mul_ediv_self_le (by omega)
  have h4 : 0 ≤ b * (a / b) := Int.mul_nonneg (by omega) (Int.ediv_nonneg ha (by omega))
  have h5 : Hid (a - b * (a / b) = a % b) := by show _ = _; rw [Int.emod_def]
  obtain ⟨q, hq⟩ : ∃ q, a / b = q := ⟨_, rfl⟩
  rw [hq] at c1 h3 h4 h5
  clear hq
  go_enter Tryz.func66, Tryz.ntmps66
  go_wp2_with fail
  refine c1.out.mono ?_
  rintro e w' ⟨rfl, rfl⟩
  go_wp2
  go_ret
  rw [← h5.out]
  exact ⟨rfl, rfl⟩

theorem Leap_any (y : Int) (w : World) (h0 : 0 ≤ y) : Calls Tryz.prog 143 #[.int .i64 y] w fun e w' => e = .returned (.bool (leapB y)) ∧ w = w' := by
  by_cases h4 : y % 4 = 0
  · by_cases h100 : y % 100 = 0
    · by_cases h400 : y % 400 = 0
      · have hr : Hid (leapB y = true) := decide_eq_true (by omega)
        go_enter Tryz.func143, Tryz.ntmps143
        go_wp2
        go_ret
        exact ⟨by rw [hr.out]; rfl, rfl⟩
      · have hr : Hid (leapB y = false) := decide_eq_false (by omega)
        have hb : (y % 400 == 0) = false := by simpa using h400
        go_enter Tryz.func143, Tryz.ntmps143
        go_wp2
        go_ret
        exact ⟨by rw [hr.out]; rfl, rfl⟩
    · have hr : Hid (leapB y = true) := decide_eq_true (by omega)
      have hb : (y % 100 == 0) = false := by simpa using h100
      have hb2 : (y % 100 != 0) = true := by simpa using h100
      go_enter Tryz.func143, Tryz.ntmps143
      go_wp2
      go_ret
      exact ⟨by rw [hr.out]; rfl, rfl⟩
  · have hr : Hid (leapB y = false) := decide_eq_false (by omega)
    have hb : (y % 4 == 0) = false := by simpa using h4
    go_enter Tryz.func143, Tryz.ntmps143
    go_wp2
    go_ret
    exact ⟨by rw [hr.out]; rfl, rfl⟩
theorem RLeap_any (y : Int) (w : World) (h0 : 0 ≤ y) : Calls Tryz.prog 65 #[.int .i64 y] w fun e w' => e = .returned (.bool (leapB y)) ∧ w = w' := by
  by_cases h400 : y % 400 = 0
  · have hr : Hid (leapB y = true) := decide_eq_true (by omega)
    go_enter Tryz.func65, Tryz.ntmps65
    go_wp2
    go_ret
    exact ⟨by rw [hr.out]; rfl, rfl⟩
  · have hb4 : (y % 400 == 0) = false := by simpa using h400
    by_cases h4 : y % 4 = 0
    · by_cases h100 : y % 100 = 0
      · have hr : Hid (leapB y = false) := decide_eq_false (by omega)
        go_enter Tryz.func65, Tryz.ntmps65
        go_wp2
        go_ret
        exact ⟨by rw [hr.out]; rfl, rfl⟩
      · have hr : Hid (leapB y = true) := decide_eq_true (by omega)
        have hb : (y % 100 == 0) = false := by simpa using h100
        have hb2 : (y % 100 != 0) = true := by simpa using h100
        go_enter Tryz.func65, Tryz.ntmps65
        go_wp2
        go_ret
        exact ⟨by rw [hr.out]; rfl, rfl⟩
    · have hr : Hid (leapB y = false) := decide_eq_false (by omega)
      have hb : (y % 4 == 0) = false := by simpa using h4
      go_enter Tryz.func65, Tryz.ntmps65
      go_wp2
      go_ret
      exact ⟨by rw [hr.out]; rfl, rfl⟩

theorem twelve {m : Int} (h1 : 1 ≤ m) (h2 : m ≤ 12) : m = 1 ∨ m = 2 ∨ m = 3 ∨ m = 4 ∨ m = 5 ∨ m = 6 ∨ m = 7 ∨ m = 8 ∨ m = 9 ∨ m = 10 ∨ m = 11 ∨ m = 12 := by omega
set_option maxHeartbeats 1600000 in
theorem Length_any (y m : Int) (w : World) (h0 : 0 ≤ y) (h1 : 1 ≤ m) (h2 : m ≤ 12) : Calls Tryz.prog 137 #[.int .i64 y, .int .i64 m] w fun e w' => e = .returned (.int .i64 (lenI y m)) ∧ Below w.heap.size w w' := by
  have c1 := hid (fun W => Leap_any y W h0)
  have hl := leapB_I y
  rcases twelve h1 h2 with rfl | rfl | rfl | rfl | rfl | rfl | rfl | rfl | rfl | rfl | rfl | rfl
  case inr.inl =>
    clear h0 h1 h2
    rcases hl with ⟨e1, e2⟩ | ⟨e1, e2⟩
    all_goals
      have hr : lenI y 2 = 28 + leapI y := by simp [lenI]
      rw [e2] at hr
      rw [e1] at c1
      have Hr := hid hr
      clear e1 e2 hr
      go_enter Tryz.func137, Tryz.ntmps137
      go_wp2_with fail
      refine (c1.out _).mono ?_
      rintro e w' ⟨rfl, rfl⟩
      go_wp2
      go_ret
      exact ⟨by rw [Hr.out]; rfl, below_new (Below.refl _ _) (Nat.le_refl _)⟩
  all_goals
    clear h0 h1 h2 hl
    go_enter Tryz.func137, Tryz.ntmps137
    go_wp2
    go_ret
    exact ⟨by simp [lenI], below_new (Below.refl _ _) (Nat.le_refl _)⟩
set_option maxHeartbeats 1600000 in
theorem RLength_any (y m : Int) (w : World) (h0 : 0 ≤ y) (h1 : 1 ≤ m) (h2 : m ≤ 12) : Calls Tryz.prog 28 #[.int .i64 y, .int .i64 m] w fun e w' => e = .returned (.int .i64 (lenI y m)) ∧ w = w' := by
  have c1 := hid (fun W => RLeap_any y W h0)
  have hl := leapB_I y
  rcases twelve h1 h2 with rfl | rfl | rfl | rfl | rfl | rfl | rfl | rfl | rfl | rfl | rfl | rfl
  case inr.inl =>
    clear h0 h1 h2
    rcases hl with ⟨e1, e2⟩ | ⟨e1, e2⟩
    all_goals
      have hr : lenI y 2 = 28 + leapI y := by simp [lenI]
      rw [e2] at hr
      rw [e1] at c1
      have Hr := hid hr
      clear e1 e2 hr
      go_enter Tryz.func28, Tryz.ntmps28
      go_wp2_with fail
      refine (c1.out _).mono ?_
      rintro e w' ⟨rfl, rfl⟩
      go_wp2
      go_ret
      exact ⟨by rw [Hr.out]; rfl, rfl⟩
  all_goals
    clear h0 h1 h2 hl
    go_enter Tryz.func28, Tryz.ntmps28
    go_wp2
    go_ret
    exact ⟨by simp [lenI], rfl⟩
theorem RYear_any (y : Int) (w : World) (h0 : 0 ≤ y) : Calls Tryz.prog 31 #[.int .i64 y] w fun e w' => e = .returned (.int .i64 (365 + leapI y)) ∧ w = w' := by
  have c1 := hid (fun W => RLeap_any y W h0)
  rcases leapB_I y with ⟨e1, e2⟩ | ⟨e1, e2⟩
  all_goals
    rw [e1] at c1
    rw [e2]
    clear e1 e2
    go_enter Tryz.func31, Tryz.ntmps31
    go_wp2_with fail
    refine (c1.out _).mono ?_
    rintro e w' ⟨rfl, rfl⟩
    go_wp2
    go_ret
    exact ⟨rfl, rfl⟩
theorem CMay_yes (y m d : Int) (w : World) (h0 : 0 ≤ y) (hy : y ≤ 3000) (h1 : 1 ≤ m) (h2 : m ≤ 12) (h3 : 1 ≤ d) (h4 : d ≤ lenI y m) : Calls Tryz.prog 142 #[.int .i64 y, .int .i64 m, .int .i64 d] w fun e w' => e = .returned (.bool true) ∧ Below w.heap.size w w' := by
  have c1 := hid (fun W => Length_any y m W h0 h1 h2)
  obtain ⟨l, hl⟩ : ∃ l, lenI y m = l := ⟨_, rfl⟩
  rw [hl] at c1 h4
  clear hl
  go_enter Tryz.func142, Tryz.ntmps142
  go_wp2_with fail
  refine (c1.out _).mono ?_
  rintro e w' ⟨rfl, hB⟩
  have HB := hid hB
  clear hB
  go_wp2
  go_ret
  exact ⟨ret_bool (by first | (simp; done) | (simp; omega)), HB.out⟩
end Go.Proofs.YtbfjceegfpddkaaGreatDoor

/-
  span.Days.
  day.live: the clauses that have days.
  day.active: the mask of the clauses that are active on a day; day.bounds: the first and the last day of some.
  day.bounds; day.All makes a function that tells the days of a set, each with its active clauses.
  The document's answer for days: feriaref09.Meet, feriaref14.Live, feriaref14.Active.
  feriaref14.Live, feriaref14.Active, day.Active.
-/
import Derived.Test.YtbfjceegfpddkaaGreatDoorQe384e2
import Derived.Test.YtbfjceegfpddkaaGreatDoorQ393f76
import Derived.Test.YtbfjceegfpddkaaGreatDoorQd180c5
import Derived.BigQuiet
import Derived.Deep.CutRange
import Derived.Deep.RegionHeld3
import Derived.Test.YtbfjceegfpddkaaGreatDoorQf05b1b
import Derived.Test.YtbfjceegfpddkaaGreatDoorQ7770d5
namespace Go.Proofs.YtbfjceegfpddkaaGreatDoor
open Go.RowKit
set_option linter.unusedVariables false

theorem held_twice (f u : Int) : heldF (heldF f u) (heldU f u) = heldF f u ∧ heldU (heldF f u) (heldU f u) = heldU f u := by
  rcases held_cases f u with ⟨e1, e2, h⟩ | ⟨e1, e2, h⟩ <;> rcases held_cases (heldF f u) (heldU f u) with ⟨g1, g2, k⟩ | ⟨g1, g2, k⟩ <;> rw [g1, g2] <;> rw [e1, e2] at * <;> omega
theorem heldB_cases (f u : Int) : (heldB f u = true ∧ 0 ≤ heldF f u ∧ heldF f u < 12622780800 ∧ 0 ≤ heldU f u ∧ heldU f u < 12622780800) ∨ (heldB f u = false ∧ heldF f u = 0 ∧ heldU f u = -1) := by
  cases hb : heldB f u
  · right; unfold heldF heldU; rw [hb]; exact ⟨rfl, rfl, rfl⟩
  · left
    have h : max f 0 ≤ min u 12622780799 := by simpa only [heldB, decide_eq_true_eq] using hb
    unfold heldF heldU; rw [hb, if_pos rfl, if_pos rfl]; refine ⟨rfl, ?_⟩; omega
set_option maxHeartbeats 1600000 in
theorem SDays_any (c : Cl) (w : World) : Calls Tryz.prog 35 #[spv (heldF c.fr c.un) (heldU c.fr c.un)] w fun e w' => e = .returned (.tuple #[.int .i64 (if heldB c.fr c.un then frD c else 0), .int .i64 (if heldB c.fr c.un then unD c else 0), .bool (heldB c.fr c.un)]) ∧ Below w.heap.size w w' := by
  have c0 := hid (fun W => SHeld_any (heldF c.fr c.un) (heldU c.fr c.un) W)
  rw [(held_twice c.fr c.un).1, (held_twice c.fr c.un).2] at c0
  have hcase := heldB_cases c.fr c.un
  unfold frD unD
  obtain ⟨f, hf⟩ : ∃ f, heldF c.fr c.un = f := ⟨_, rfl⟩
  obtain ⟨u, hu⟩ : ∃ u, heldU c.fr c.un = u := ⟨_, rfl⟩
  obtain ⟨b, hb⟩ : ∃ b, heldB c.fr c.un = b := ⟨_, rfl⟩
  rw [hf, hu] at c0
  rw [hf, hu, hb] at hcase ⊢
  clear hf hu hb
  rcases hcase with ⟨rfl, h0, h1, h2, h3⟩ | ⟨rfl, rfl, rfl⟩
  · have c1 := hid (fun W => Split_yes f W h0 h1)
    have c2 := hid (fun W => Split_yes u W h2 h3)
    obtain ⟨q1, hq1⟩ : ∃ q, f / 86400 = q := ⟨_, rfl⟩
    obtain ⟨q2, hq2⟩ : ∃ q, u / 86400 = q := ⟨_, rfl⟩
    obtain ⟨r1, hr1⟩ : ∃ q, f % 86400 = q := ⟨_, rfl⟩
    obtain ⟨r2, hr2⟩ : ∃ q, u % 86400 = q := ⟨_, rfl⟩
    rw [hq1, hr1] at c1
    rw [hq2, hr2] at c2
    rw [if_pos rfl, if_pos rfl, hq1, hq2]
    clear hq1 hq2 hr1 hr2
    go_enter Tryz.func35, Tryz.ntmps35
    go_wp2_with fail
    refine (c0.out _).mono ?_
    rintro e w1 ⟨rfl, hB1⟩
    have k1 := (hB1.cell (p := ⟨w.heap.size, 0, none⟩) (by simp)).trans (show _ = some (.int .i64 f) by simp [go_sem])
    have k2 := (hB1.cell (p := ⟨w.heap.size, 1, none⟩) (by simp)).trans (show _ = some (.int .i64 u) by simp [go_sem])
    have f1 := (hB1.frozen (p := ⟨w.heap.size, 0, none⟩) (by simp)).trans (show _ = false by simp [go_sem])
    have f2 := (hB1.frozen (p := ⟨w.heap.size, 1, none⟩) (by simp)).trans (show _ = false by simp [go_sem])
    have HB1 : Hid (Below w.heap.size w w1) := (below_new (Below.refl _ _) (Nat.le_refl _)).trans (hB1.mono (by simp))
    clear hB1
    go_wp2_with (first
      | (go_at_call 74; with_reducible refine (c1.out _).mono ?_; rintro e w' ⟨rfl, rfl⟩)
      | (go_at_call 74; with_reducible refine (c2.out _).mono ?_; rintro e w' ⟨rfl, rfl⟩))
    exact bodyPost_ret (v := .tuple #[.int .i64 q1, .int .i64 q2, .bool true]) (by simp [results, Tryz.results35, go_sem]) rfl ⟨rfl, below_set (below_set HB1.out (Nat.le_refl _)) (Nat.le_refl _)⟩
  · have c1 := hid (fun W => Split_yes 0 W (by omega) (by omega))
    have c2 := hid (fun W => Split_no (-1) W rfl)
    rw [show (0 : Int) / 86400 = 0 from rfl, show (0 : Int) % 86400 = 0 from rfl] at c1
    rw [if_neg (by simp), if_neg (by simp)]
    go_enter Tryz.func35, Tryz.ntmps35
    go_wp2_with fail
    refine (c0.out _).mono ?_
    rintro e w1 ⟨rfl, hB1⟩
    have k1 := (hB1.cell (p := ⟨w.heap.size, 0, none⟩) (by simp)).trans (show _ = some (.int .i64 0) by simp [go_sem])
    have k2 := (hB1.cell (p := ⟨w.heap.size, 1, none⟩) (by simp)).trans (show _ = some (.int .i64 (-1)) by simp [go_sem])
    have f1 := (hB1.frozen (p := ⟨w.heap.size, 0, none⟩) (by simp)).trans (show _ = false by simp [go_sem])
    have f2 := (hB1.frozen (p := ⟨w.heap.size, 1, none⟩) (by simp)).trans (show _ = false by simp [go_sem])
    have HB1 : Hid (Below w.heap.size w w1) := (below_new (Below.refl _ _) (Nat.le_refl _)).trans (hB1.mono (by simp))
    clear hB1
    go_wp2_with (first
      | (go_at_call 74; with_reducible refine (c1.out _).mono ?_; rintro e w' ⟨rfl, rfl⟩)
      | (go_at_call 74; with_reducible refine (c2.out _).mono ?_; rintro e w' ⟨rfl, rfl⟩))
    exact bodyPost_ret (v := .tuple #[.int .i64 0, .int .i64 0, .bool false]) (by simp [results, Tryz.results35, go_sem]) rfl ⟨rfl, below_set (below_set HB1.out (Nat.le_refl _)) (Nat.le_refl _)⟩

/-! ### the rows of live clauses -/
structure Row where
  i : Nat
  x1 : Nat
  x2 : Nat
  lo : Nat
  hi : Nat
abbrev rowC (cs : List Cl) (r : Row) : List Value :=
  [.int .i64 (r.i : Nat), .int .i64 (frD (atC cs r.i)), .int .i64 (unD (atC cs r.i)), .func (.func 69) #[] #[.pointer (some ⟨r.x1, 0, none⟩), .pointer (some ⟨r.x2, 0, none⟩)]]
def onesC (cs : List Cl) (l : List Row) : List Value := l.flatMap (rowC cs)
theorem onesC_snoc (cs : List Cl) (l : List Row) (r : Row) : onesC cs (l ++ [r]) = onesC cs l ++ rowC cs r := by simp [onesC]
theorem onesC_len (cs : List Cl) (l : List Row) : (onesC cs l).length = l.length * 4 := by
  induction l with
  | nil => rfl
  | cons r l ih =>
    rw [show onesC cs (r :: l) = rowC cs r ++ onesC cs l by simp [onesC], List.length_append, ih]
    simp only [List.length_cons, List.length_nil]; omega
theorem onesC_get (cs : List Cl) : ∀ (l : List Row) (k : Nat) (hk : k < l.length) (i : Nat) (hi : i < 4), (onesC cs l)[k * 4 + i]? = (rowC cs l[k])[i]? := by
  intro l
  induction l with
  | nil => intro k hk; simp at hk
  | cons r l ih =>
    intro k hk i hi
    rw [show onesC cs (r :: l) = rowC cs r ++ onesC cs l by simp [onesC]]
    cases k with
    | zero =>
      rw [Nat.zero_mul, Nat.zero_add, List.getElem?_append_left (by exact hi)]
      rfl
    | succ k =>
      rw [List.getElem?_append_right (by show 4 ≤ _; omega), show (k + 1) * 4 + i - (rowC cs r).length = k * 4 + i by show (k + 1) * 4 + i - 4 = _; omega, ih k (by simp at hk; omega) i hi]
      rfl
/-- what stands of a row in a world -/
def RowOk (cs : List Cl) (lo : Nat) (W : World) (r : Row) : Prop := lo ≤ r.lo ∧ r.hi ≤ W.heap.size ∧ DCS W r.lo r.hi (atC cs r.i) r.x1 r.x2
/-- live's slice, when it has come back: as long as its blocks stand -/
structure LivS (W : World) (cs : List Cl) (lo hi : Nat) (a : Option Addr) (l : List Row) : Prop where
  sl : Sl W a (onesC cs l)
  idx : l.map (·.i) = liveI cs (min cs.length 64)
  row : ∀ r ∈ l, lo ≤ r.lo ∧ r.hi ≤ hi ∧ DCS W r.lo r.hi (atC cs r.i) r.x1 r.x2
  at_ : ∀ b off, a = some ⟨b, off, none⟩ → lo ≤ b ∧ b < hi
  le : hi ≤ W.heap.size
theorem LivS.keep {W W' : World} {cs : List Cl} {lo hi : Nat} {a : Option Addr} {l : List Row} (h : LivS W cs lo hi a l) (hs : hi ≤ W'.heap.size) (hb : ∀ b, lo ≤ b → b < hi → W'.heap[b]? = W.heap[b]?) : LivS W' cs lo hi a l := by
  refine ⟨?_, h.idx, fun r hr => ?_, h.at_, hs⟩
  · rcases h.sl with e | ⟨b, off, rfl, hlt, hc⟩
    · exact .inl e
    · obtain ⟨h1, h2⟩ := h.at_ b off rfl
      exact .inr ⟨b, off, rfl, by omega, fun j hj => (World.cell?_of_block (w := W) (a := ⟨b, off + j, none⟩) (hb b h1 h2)).trans (hc j hj)⟩
  · obtain ⟨h1, h2, h3⟩ := h.row r hr
    exact ⟨h1, h2, h3.call (by omega) (fun b g1 g2 => hb b (by omega) (by omega))⟩
theorem LivS.below {W W' : World} {cs : List Cl} {lo hi : Nat} {a : Option Addr} {l : List Row} (h : LivS W cs lo hi a l) (hb : Below W.heap.size W W') : LivS W' cs lo hi a l :=
  h.keep (Nat.le_trans h.le hb.size) (fun b _ h2 => hb.block b (by have := h.le; omega))
def LivR (W : World) (cs : List Cl) (lo : Nat) (v : Value) : Prop := ∃ a n cap l, v = .slice a n cap ∧ Hid (n = l.length) ∧ LivS W cs lo W.heap.size a l
theorem LivS.at {W : World} {cs : List Cl} {lo hi : Nat} {a : Option Addr} {l : List Row} (h : LivS W cs lo hi a l) {k : Nat} (hk : k < l.length) :
    ∃ b off, a = some ⟨b, off, none⟩ ∧ b < W.heap.size ∧ W.rangeAt b (off + k * 4) (rowC cs l[k]) := by
  obtain ⟨b, off, rfl, hlt, hc⟩ := Sl.at h.sl (k := k * 4) (by rw [onesC_len]; omega)
  refine ⟨b, off, rfl, hlt, fun j v hv => ?_⟩
  have hj : j < 4 := (List.getElem?_eq_some_iff.1 hv).1
  rw [← onesC_get cs l k hk j hj] at hv
  obtain ⟨h1, h2⟩ := List.getElem?_eq_some_iff.1 hv
  rw [Nat.add_assoc, hc _ h1, h2]

theorem row_one (cs : List Cl) (r : Row) : ∀ u ∈ rowC cs r, u.oneCell' = true := by
  intro u hu
  simp only [rowC, List.mem_cons, List.not_mem_nil, or_false] at hu
  rcases hu with rfl | rfl | rfl | rfl <;> rfl
attribute [local go_sem ↓] loadAt_cl storeAt_cl
attribute [local go_sem] run_storeClS
end Go.Proofs.YtbfjceegfpddkaaGreatDoor
namespace Go.Proofs.YtbfjceegfpddkaaGreatDoor
open Go.RowKit
set_option linter.unusedVariables false

/-- the mask of the first k live clauses that are active on a day -/
def parM (cs : List Cl) (n : Int) (k : Nat) : Nat := mk fun i => decide (i ∈ (liveI cs (min cs.length 64)).take k) && onD (atC cs i) n
theorem parM_zero (cs : List Cl) (n : Int) : parM cs n 0 = 0 := by
  rw [parM]; exact (mk_congr fun i _ => by simp).trans mk_false
theorem parM_lt (cs : List Cl) (n : Int) (k : Nat) : parM cs n k < 18446744073709551616 := mk_lt _
theorem parM_yes {cs : List Cl} {n : Int} {k i : Nat} (hi : (liveI cs (min cs.length 64))[k]? = some i) (h : onD (atC cs i) n = true) (h64 : i < 64) : parM cs n k ||| 2 ^ i = parM cs n (k + 1) := by
  obtain ⟨hk, he⟩ := List.getElem?_eq_some_iff.1 hi
  rw [parM, mk_or h64, parM]
  refine mk_congr fun j hj => ?_
  rw [take_snoc _ k hk, he]
  by_cases e : j = i
  · subst e; simp [h]
  · simp [e]
theorem parM_no {cs : List Cl} {n : Int} {k i : Nat} (hi : (liveI cs (min cs.length 64))[k]? = some i) (h : onD (atC cs i) n = false) : parM cs n (k + 1) = parM cs n k := by
  obtain ⟨hk, he⟩ := List.getElem?_eq_some_iff.1 hi
  rw [parM, parM]
  refine mk_congr fun j hj => ?_
  rw [take_snoc _ k hk, he]
  by_cases e : j = i
  · subst e; simp [h]
  · simp [e]
theorem parM_all {cs : List Cl} {n : Int} {k : Nat} (h : (liveI cs (min cs.length 64)).length = k) : parM cs n k = actM cs n := by
  rw [parM, ← actM_I, ← h, List.take_length]
structure AcF (w : World) (cs : List Cl) (lo hi : Nat) (a : Option Addr) (l : List Row) (s : Nat → Int) (W : World) : Prop where
  liv : LivS W cs lo hi a l
  sh : ShS W w.heap.size s
  be : Below w.heap.size w W
  l : w.heap.size < W.heap.size
theorem AcF.keep {w W W' : World} {cs : List Cl} {lo hi : Nat} {a : Option Addr} {l : List Row} {s : Nat → Int} (h : AcF w cs lo hi a l s W) (hb : Below W.heap.size W W') : AcF w cs lo hi a l s W' :=
  ⟨h.liv.below hb, h.sh.below hb h.l, h.be.trans (hb.mono (by have := h.l; omega)), Nat.lt_of_lt_of_le h.l hb.size⟩
/-- what a round holds -/
abbrev AcS (w : World) (cs : List Cl) (lo hi : Nat) (a : Option Addr) (l : List Row) (s : Nat → Int) (b o k i x1 x2 : Nat) (F U : Int) (W : World) : Prop :=
  (W.cell? ⟨b, o + k * 4, none⟩ = some (.int .i64 (i : Nat)) ∧ W.cell? ⟨b, o + k * 4 + 1, none⟩ = some (.int .i64 F) ∧ W.cell? ⟨b, o + k * 4 + 2, none⟩ = some (.int .i64 U) ∧ W.cell? ⟨b, o + k * 4 + 3, none⟩ = some (.func (.func 69) #[] #[.pointer (some ⟨x1, 0, none⟩), .pointer (some ⟨x2, 0, none⟩)])) ∧
    ShS W w.heap.size s ∧ b < W.heap.size ∧ AcF w cs lo hi a l s W
theorem AcS.keep {w W W' : World} {cs : List Cl} {lo hi : Nat} {a : Option Addr} {l : List Row} {s : Nat → Int} {b o k i x1 x2 : Nat} {F U : Int} (h : AcS w cs lo hi a l s b o k i x1 x2 F U W) (hb : Below W.heap.size W W') : AcS w cs lo hi a l s b o k i x1 x2 F U W' := by
  obtain ⟨⟨c0, c1, c2, c3⟩, hs, hl, hF⟩ := h
  exact ⟨⟨(hb.cell (p := ⟨b, o + k * 4, none⟩) hl).trans c0, (hb.cell (p := ⟨b, o + k * 4 + 1, none⟩) hl).trans c1, (hb.cell (p := ⟨b, o + k * 4 + 2, none⟩) hl).trans c2, (hb.cell (p := ⟨b, o + k * 4 + 3, none⟩) hl).trans c3⟩, (hF.keep hb).sh, Nat.lt_of_lt_of_le hl hb.size, hF.keep hb⟩
theorem LivS.len {W : World} {cs : List Cl} {lo hi : Nat} {a : Option Addr} {l : List Row} (h : LivS W cs lo hi a l) : (liveI cs (min cs.length 64)).length = l.length ∧ l.length ≤ 64 := by
  have h1 := congrArg List.length h.idx
  rw [List.length_map] at h1
  have h2 := liveI_len cs (min cs.length 64)
  omega
theorem LivS.row' {W : World} {cs : List Cl} {lo hi : Nat} {a : Option Addr} {l : List Row} (h : LivS W cs lo hi a l) {k : Nat} (hk : k < l.length) :
    ∃ b o i x1 x2, a = some ⟨b, o, none⟩ ∧ b < W.heap.size ∧ i < 64 ∧ (liveI cs (min cs.length 64))[k]? = some i ∧
      (W.cell? ⟨b, o + k * 4, none⟩ = some (.int .i64 (i : Nat)) ∧ W.cell? ⟨b, o + k * 4 + 1, none⟩ = some (.int .i64 (frD (atC cs i))) ∧ W.cell? ⟨b, o + k * 4 + 2, none⟩ = some (.int .i64 (unD (atC cs i))) ∧ W.cell? ⟨b, o + k * 4 + 3, none⟩ = some (.func (.func 69) #[] #[.pointer (some ⟨x1, 0, none⟩), .pointer (some ⟨x2, 0, none⟩)])) ∧
      ∀ W', LivS W' cs lo hi a l → ∀ n, 0 ≤ n → n < 146097 → Calls Tryz.prog 69 #[shN n, .pointer (some ⟨x1, 0, none⟩), .pointer (some ⟨x2, 0, none⟩)] W' fun e w' => e = .returned (.bool (dayC (atC cs i) n)) ∧ Below W'.heap.size W' w' := by
  obtain ⟨b, o, ha, hb, hr⟩ := h.at hk
  have hx : (liveI cs (min cs.length 64))[k]? = some l[k].i := by rw [← h.idx, List.getElem?_map, List.getElem?_eq_getElem hk]; rfl
  have hm := List.mem_of_getElem? hx
  have h64 := (liveI_mem.1 hm).1
  refine ⟨b, o, l[k].i, l[k].x1, l[k].x2, ha, hb, by omega, hx, ⟨hr 0 _ rfl, hr 1 _ rfl, hr 2 _ rfl, hr 3 _ rfl⟩, fun W' h' n h0 h1 => ?_⟩
  obtain ⟨_, h2, h3⟩ := h'.row _ (List.getElem_mem hk)
  exact h3 n W' h0 h1 (Nat.le_trans h2 h'.le) (fun _ _ _ => rfl)
end Go.Proofs.YtbfjceegfpddkaaGreatDoor
namespace Go.Proofs.YtbfjceegfpddkaaGreatDoor
open Go.RowKit
set_option linter.unusedVariables false

theorem some_int {k : IntKind} {a b : Int} (h : a = b) : some (Value.int k a) = some (Value.int k b) := by rw [h]
structure BnS (w : World) (cs : List Cl) (lo hi : Nat) (a : Option Addr) (l : List Row) (W : World) : Prop where
  liv : LivS W cs lo hi a l
  be : Below w.heap.size w W
attribute [local go_sem] run_storeFn
/-! ### day.All -/
theorem LivS.wide {W : World} {cs : List Cl} {lo hi lo2 hi2 : Nat} {a : Option Addr} {l : List Row} (h : LivS W cs lo hi a l) (h1 : lo2 ≤ lo) (h2 : hi ≤ hi2) (h3 : hi2 ≤ W.heap.size) : LivS W cs lo2 hi2 a l :=
  ⟨h.sl, h.idx, fun r hr => by obtain ⟨a, b, c⟩ := h.row r hr; exact ⟨by omega, by omega, c⟩, fun b off e => by have := h.at_ b off e; omega, h3⟩
structure DayS (W : World) (cs : List Cl) (f t : Int) (lo hi b1 b2 b3 b4 b5 : Nat) : Prop where
  c1 : W.cell? ⟨b1, 0, none⟩ = some (.int .i64 f)
  c2 : W.cell? ⟨b2, 0, none⟩ = some (.int .i64 (loC cs))
  c3 : W.cell? ⟨b3, 0, none⟩ = some (.int .i64 t)
  c4 : W.cell? ⟨b4, 0, none⟩ = some (.int .i64 (hiC cs))
  c5 : ∃ a cap l, W.cell? ⟨b5, 0, none⟩ = some (.slice a (List.length l) cap) ∧ LivS W cs lo hi a l
  o : (lo ≤ b1 ∧ b1 < hi) ∧ (lo ≤ b2 ∧ b2 < hi) ∧ (lo ≤ b3 ∧ b3 < hi) ∧ (lo ≤ b4 ∧ b4 < hi) ∧ lo ≤ b5 ∧ b5 < hi
  le : hi ≤ W.heap.size
theorem DayS.keep {W W' : World} {cs : List Cl} {f t : Int} {lo hi b1 b2 b3 b4 b5 : Nat} (h : DayS W cs f t lo hi b1 b2 b3 b4 b5) (hs : hi ≤ W'.heap.size) (hb : ∀ b, lo ≤ b → b < hi → W'.heap[b]? = W.heap[b]?) : DayS W' cs f t lo hi b1 b2 b3 b4 b5 := by
  obtain ⟨⟨o1, p1⟩, ⟨o2, p2⟩, ⟨o3, p3⟩, ⟨o4, p4⟩, o5, p5⟩ := h.o
  have cell : ∀ {b v}, lo ≤ b → b < hi → W.cell? ⟨b, 0, none⟩ = some v → W'.cell? ⟨b, 0, none⟩ = some v := fun h1 h2 e => (World.cell?_of_block (w := W) (a := ⟨_, 0, none⟩) (hb _ h1 h2)).trans e
  obtain ⟨a, cap, l, h5, hL⟩ := h.c5
  exact ⟨cell o1 p1 h.c1, cell o2 p2 h.c2, cell o3 p3 h.c3, cell o4 p4 h.c4, ⟨a, cap, l, cell o5 p5 h5, hL.keep hs hb⟩, h.o, hs⟩
theorem DayS.below {W W' : World} {cs : List Cl} {f t : Int} {lo hi b1 b2 b3 b4 b5 : Nat} (h : DayS W cs f t lo hi b1 b2 b3 b4 b5) (hb : Below W.heap.size W W') : DayS W' cs f t lo hi b1 b2 b3 b4 b5 :=
  h.keep (Nat.le_trans h.le hb.size) (fun b _ h2 => hb.block b (by have := h.le; omega))
end Go.Proofs.YtbfjceegfpddkaaGreatDoor
namespace Go.Proofs.YtbfjceegfpddkaaGreatDoor
open Go.RowKit
set_option linter.unusedVariables false

def pints (l : List (Int × Int)) : List Value := l.flatMap fun p => [.int .i64 p.1, .int .i64 p.2]
theorem pints_len (l : List (Int × Int)) : (pints l).length = l.length * 2 := by
  induction l with
  | nil => rfl
  | cons p l ih => rw [show pints (p :: l) = [.int .i64 p.1, .int .i64 p.2] ++ pints l by simp [pints], List.length_append, ih]; simp only [List.length_cons, List.length_nil]; omega
theorem pints_get : ∀ (l : List (Int × Int)) (k : Nat) (hk : k < l.length), (pints l)[k * 2]? = some (.int .i64 l[k].1) ∧ (pints l)[k * 2 + 1]? = some (.int .i64 l[k].2)
  | p :: l, 0, _ => by simp [pints]
  | p :: l, k + 1, hk => by
    have e : pints (p :: l) = [.int .i64 p.1, .int .i64 p.2] ++ pints l := by simp [pints]
    have h := pints_get l k (by simpa using hk)
    constructor
    · rw [e, List.getElem?_append_right (by simp only [List.length_cons, List.length_nil]; omega), show (k + 1) * 2 - [Value.int .i64 p.1, .int .i64 p.2].length = k * 2 by simp only [List.length_cons, List.length_nil]; omega, h.1]; simp
    · rw [e, List.getElem?_append_right (by simp only [List.length_cons, List.length_nil]; omega), show (k + 1) * 2 + 1 - [Value.int .i64 p.1, .int .i64 p.2].length = k * 2 + 1 by simp only [List.length_cons, List.length_nil]; omega, h.2]; simp
theorem Sl.atPint {w : World} {a : Option Addr} {l : List (Int × Int)} (h : Sl w a (pints l)) {k : Nat} (hk : k < l.length) :
    ∃ b off, a = some ⟨b, off, none⟩ ∧ b < w.heap.size ∧ w.cell? ⟨b, off + k * 2, none⟩ = some (.int .i64 l[k].1) ∧ w.cell? ⟨b, off + k * 2 + 1, none⟩ = some (.int .i64 l[k].2) := by
  obtain ⟨b, off, rfl, hlt, hc⟩ := Sl.at h (k := k * 2) (by rw [pints_len]; omega)
  obtain ⟨h1, h2⟩ := pints_get l k hk
  obtain ⟨g1, g2⟩ := List.getElem?_eq_some_iff.1 h1
  obtain ⟨g3, g4⟩ := List.getElem?_eq_some_iff.1 h2
  exact ⟨b, off, rfl, hlt, by rw [hc _ g1, g2], by rw [Nat.add_assoc, hc _ g3, g4]⟩
def mtF (l : List (Int × Int)) : Int := l.foldl (fun a p => max a p.1) 0
def mtU (l : List (Int × Int)) : Int := l.foldl (fun a p => min a p.2) 12622780799
theorem mtF_snoc (l : List (Int × Int)) (p : Int × Int) : mtF (l ++ [p]) = max (mtF l) p.1 := by rw [mtF, List.foldl_append]; rfl
theorem mtU_snoc (l : List (Int × Int)) (p : Int × Int) : mtU (l ++ [p]) = min (mtU l) p.2 := by rw [mtU, List.foldl_append]; rfl
structure MtS (w : World) (F U : Int) (W : World) : Prop where
  r0 : W.cell? ⟨w.heap.size, 0, none⟩ = some (.int .i64 0)
  r1 : W.cell? ⟨w.heap.size, 1, none⟩ = some (.int .i64 0)
  g0 : W.frozen? ⟨w.heap.size, 0, none⟩ = false
  g1 : W.frozen? ⟨w.heap.size, 1, none⟩ = false
  c0 : W.cell? ⟨w.heap.size + 1, 0, none⟩ = some (.int .i64 F)
  c1 : W.cell? ⟨w.heap.size + 1, 1, none⟩ = some (.int .i64 U)
  f0 : W.frozen? ⟨w.heap.size + 1, 0, none⟩ = false
  f1 : W.frozen? ⟨w.heap.size + 1, 1, none⟩ = false
  be : Below w.heap.size w W
  l : w.heap.size + 1 < W.heap.size
theorem MtS.drew {w W : World} {F U : Int} (h : MtS w F U W) : MtS w F U W.drew := by
  have hd : Below W.heap.size W W.drew := (Below.refl _ _).drew
  have l1 : w.heap.size < W.heap.size := by have := h.l; omega
  exact ⟨(hd.cell (p := ⟨w.heap.size, 0, none⟩) l1).trans h.r0, (hd.cell (p := ⟨w.heap.size, 1, none⟩) l1).trans h.r1, (hd.frozen (p := ⟨w.heap.size, 0, none⟩) l1).trans h.g0, (hd.frozen (p := ⟨w.heap.size, 1, none⟩) l1).trans h.g1,
    (hd.cell (p := ⟨w.heap.size + 1, 0, none⟩) h.l).trans h.c0, (hd.cell (p := ⟨w.heap.size + 1, 1, none⟩) h.l).trans h.c1, (hd.frozen (p := ⟨w.heap.size + 1, 0, none⟩) h.l).trans h.f0, (hd.frozen (p := ⟨w.heap.size + 1, 1, none⟩) h.l).trans h.f1, h.be.trans (hd.mono (by omega)), Nat.lt_of_lt_of_le h.l hd.size⟩
theorem MtS.setF {w W : World} {F U x : Int} (h : MtS w F U W) : MtS w x U (W.setCell ⟨w.heap.size + 1, 0, none⟩ (.int .i64 x)) := by
  obtain ⟨r0, r1, g0, g1, c0, c1, f0, f1, be, l⟩ := h
  exact ⟨by simp [go_sem, r0], by simp [go_sem, r1], by simp [go_sem, g0], by simp [go_sem, g1], by simp [go_sem, c0], by simp [go_sem, c1], by simp [go_sem, f0], by simp [go_sem, f1], below_set be (by omega), by simp [l]⟩
theorem MtS.setU {w W : World} {F U x : Int} (h : MtS w F U W) : MtS w F x (W.setCell ⟨w.heap.size + 1, 1, none⟩ (.int .i64 x)) := by
  obtain ⟨r0, r1, g0, g1, c0, c1, f0, f1, be, l⟩ := h
  exact ⟨by simp [go_sem, r0], by simp [go_sem, r1], by simp [go_sem, g0], by simp [go_sem, g1], by simp [go_sem, c0], by simp [go_sem, c1], by simp [go_sem, f0], by simp [go_sem, f1], below_set be (by omega), by simp [l]⟩
set_option maxRecDepth 100000 in
set_option maxHeartbeats 3200000 in
theorem RMeet9_any (a : Option Addr) (cap : Nat) (l : List (Int × Int)) (w : World) (hl : l.length ≤ 1000) (hs : Sl w a (pints l)) :
    Calls Tryz.prog 41 #[.slice a l.length cap] w fun e w' => e = .returned (spv (heldF (mtF l) (mtU l)) (heldU (mtF l) (mtU l))) ∧ Below w.heap.size w w' := by
  have cH := hid (fun f u W => RHeld9_any f u W)
  have Hs := hid hs
  clear hs
  go_enter Tryz.func41, Tryz.ntmps41
  go_upto_region 2 with fail
  have H0 : Hid (MtS w 0 12622780799 ((w.alloc (.cells #[.int .i64 0, .int .i64 0] 85)).alloc (.cells #[.int .i64 0, .int .i64 12622780799] 85))) :=
    ⟨by simp [go_sem], by simp [go_sem], by simp [go_sem], by simp [go_sem], by simp [go_sem], by simp [go_sem], by simp [go_sem], by simp [go_sem], below_new (below_new (Below.refl _ _) (Nat.le_refl _)) (by simp), by simp⟩
  go_wp2_with fail
  go_loopw [4] (fun i wr => ∃ k : Nat, i = .int .i64 k ∧ k ≤ l.length ∧ Hid (MtS w (mtF (l.take k)) (mtU (l.take k)) wr)) (fun i _ => l.length - (intOf i).toNat)
  case atStart => exact ⟨0, rfl, by omega, H0⟩
  case round =>
    obtain ⟨k, rfl, hk, HI⟩ := hrel
    by_cases hlt : k < l.length
    · have hltI : (k : Int) < l.length := by omega
      obtain ⟨b, off, rfl, hb, e1, e2⟩ := Hs.out.atPint hlt
      have e1' := (HI.out.be.cell (p := ⟨b, off + k * 2, none⟩) hb).trans e1
      have e2' := (HI.out.be.cell (p := ⟨b, off + k * 2 + 1, none⟩) hb).trans e2
      have ts := take_snoc l k hlt
      obtain ⟨⟨x, y⟩, hxy⟩ : ∃ p, l[k] = p := ⟨_, rfl⟩
      rw [hxy] at e1' e2' ts
      have s1 := mtF_snoc (l.take k) (x, y)
      have s2 := mtU_snoc (l.take k) (x, y)
      rw [← ts] at s1 s2
      obtain ⟨F, hF⟩ : ∃ F, mtF (l.take k) = F := ⟨_, rfl⟩
      obtain ⟨U, hU⟩ : ∃ U, mtU (l.take k) = U := ⟨_, rfl⟩
      rw [hF] at s1 HI
      rw [hU] at s2 HI
      have S1 := hid s1
      have S2 := hid s2
      have hne : Hid (b ≠ w.heap.size + 1) := by have := hb; exact Nat.ne_of_lt (by omega)
      clear e1 e2 ts hxy s1 s2 hF hU
      obtain ⟨r0, r1, g0, g1, c0, c1, f0, f1, -, -⟩ := HI.out
      have en : (b = w.heap.size + 1) = False := by simpa using hne.out
      rcases Int.lt_or_le F x with h1 | h1 <;> rcases Int.lt_or_le y U with h2 | h2
      all_goals
        go_upto_region 5 with fail
        go_region
        go_upto_region 7 with fail
        go_region
        go_wp2
        refine ⟨⟨k + 1, by go_num, by omega, ?_⟩, by simp [intOf]; omega⟩
        rw [S1.out, S2.out]
        first
          | (rw [show max F x = x by omega, show min U y = y by omega]; exact HI.out.setF.setU.drew.drew)
          | (rw [show max F x = x by omega, show min U y = U by omega]; exact HI.out.setF.drew.drew)
          | (rw [show max F x = F by omega, show min U y = y by omega]; exact HI.out.setU.drew.drew)
          | (rw [show max F x = F by omega, show min U y = U by omega]; exact HI.out.drew.drew)
    · have hltI : ¬ (k : Int) < l.length := by omega
      have hall : Hid (l.take k = l) := by show _ = _; rw [List.take_of_length_le (by omega)]
      rw [hall.out] at HI
      obtain ⟨F, hF⟩ : ∃ F, mtF l = F := ⟨_, rfl⟩
      obtain ⟨U, hU⟩ : ∃ U, mtU l = U := ⟨_, rfl⟩
      rw [hF, hU] at HI
      have HF := hid hF
      have HU := hid hU
      clear hF hU
      obtain ⟨r0, r1, g0, g1, c0, c1, f0, f1, -, -⟩ := HI.out
      go_wp2_with fail
      refine (cH.out _ _ _).mono ?_
      rintro e w2 ⟨rfl, hB2⟩
      have l1 := HI.out.l
      have k1 := (hB2.cell (p := ⟨w.heap.size, 0, none⟩) (by simp only []; omega)).trans r0
      have k2 := (hB2.cell (p := ⟨w.heap.size, 1, none⟩) (by simp only []; omega)).trans r1
      have q1 := (hB2.frozen (p := ⟨w.heap.size, 0, none⟩) (by simp only []; omega)).trans g0
      have q2 := (hB2.frozen (p := ⟨w.heap.size, 1, none⟩) (by simp only []; omega)).trans g1
      have HB2 : Hid (Below w.heap.size w w2) := HI.out.be.trans (hB2.mono (by omega))
      clear hB2 r0 r1 g0 g1 c0 c1 f0 f1
      obtain ⟨X, hX⟩ : ∃ X, heldF F U = X := ⟨_, rfl⟩
      obtain ⟨Y, hY⟩ : ∃ Y, heldU F U = Y := ⟨_, rfl⟩
      rw [hX, hY]
      have HX := hid hX
      have HY := hid hY
      clear hX hY
      go_wp2
      refine bodyPost_ret (v := spv X Y) (results_cell_mid rfl _ _ w.heap.size 0 _ _ rfl (range_two k1 k2) Tryz.underlying85 rfl infoS9) rfl ⟨?_, below_set (below_set HB2.out (Nat.le_refl _)) (Nat.le_refl _)⟩
      rw [HF.out, HU.out, HX.out, HY.out]

/-! ### feriaref14.Live -/
theorem live_meet {c : Cl} {n : Int} (h0 : 0 ≤ n) (h1 : n < 146097) :
    decide (heldF (mtF [(c.fr, c.un), (86400 * n, 86400 * n + 86399)]) (mtU [(c.fr, c.un), (86400 * n, 86400 * n + 86399)]) ≤ heldU (mtF [(c.fr, c.un), (86400 * n, 86400 * n + 86399)]) (mtU [(c.fr, c.un), (86400 * n, 86400 * n + 86399)])) = (heldB c.fr c.un && (decide (frD c ≤ n) && decide (n ≤ unD c))) := by
  have e1 : mtF [(c.fr, c.un), (86400 * n, 86400 * n + 86399)] = max (max 0 c.fr) (86400 * n) := rfl
  have e2 : mtU [(c.fr, c.un), (86400 * n, 86400 * n + 86399)] = min (min 12622780799 c.un) (86400 * n + 86399) := rfl
  rw [e1, e2, Bool.eq_iff_iff]
  simp only [Bool.and_eq_true, decide_eq_true_eq]
  unfold frD unD
  rcases held_cases c.fr c.un with ⟨a1, a2, a3⟩ | ⟨a1, a2, a3⟩
  · have hb : heldB c.fr c.un = true := decide_eq_true a3
    rw [a1, a2]
    rcases held_cases (max (max 0 c.fr) (86400 * n)) (min (min 12622780799 c.un) (86400 * n + 86399)) with ⟨b1, b2, b3⟩ | ⟨b1, b2, b3⟩ <;> rw [b1, b2] <;> simp only [hb, true_and] <;> omega
  · have hb : heldB c.fr c.un = false := decide_eq_false a3
    rcases held_cases (max (max 0 c.fr) (86400 * n)) (min (min 12622780799 c.un) (86400 * n + 86399)) with ⟨b1, b2, b3⟩ | ⟨b1, b2, b3⟩ <;> rw [b1, b2, hb] <;> simp <;> omega
theorem live_eq {c : Cl} {n : Int} (h0 : 0 ≤ n) (h1 : n < 146097) :
    (decide (heldF (mtF [(c.fr, c.un), (86400 * n, 86400 * n + 86399)]) (mtU [(c.fr, c.un), (86400 * n, 86400 * n + 86399)]) ≤ heldU (mtF [(c.fr, c.un), (86400 * n, 86400 * n + 86399)]) (mtU [(c.fr, c.un), (86400 * n, 86400 * n + 86399)])) && dayC c n) = liveD c n := by
  rw [live_meet h0 h1, liveD, okD, onD, dayC]
  cases heldB c.fr c.un <;> cases mayC c <;> cases decide (frD c ≤ n) <;> cases decide (n ≤ unD c) <;> simp
end Go.Proofs.YtbfjceegfpddkaaGreatDoor
namespace Go.Proofs.YtbfjceegfpddkaaGreatDoor
open Go.RowKit
set_option linter.unusedVariables false

attribute [local go_sem ↓] loadAt_cl
set_option maxRecDepth 100000 in
set_option maxHeartbeats 3200000 in
theorem RLive_any (c : Cl) (n : Int) (w : World) (hc : c.Ok) (h0 : 0 ≤ n) (h1 : n < 146097) : Calls Tryz.prog 40 #[clv c, shN n] w fun e w' => e = .returned (.bool (liveD c n)) ∧ Below w.heap.size w w' := by
  rw [← live_eq h0 h1]
  obtain ⟨W0, hW0⟩ : ∃ W0, (w.alloc (.cells (clList c).toArray 28)).alloc (.cells (shList (shF n)).toArray 31) = W0 := ⟨_, rfl⟩
  have HD0 : Hid (DaS w c (shF n) W0) := by rw [← hW0]; exact daS_new w c (shF n) _ _
  have cM : Hid (Calls Tryz.prog 41 #[.slice (some ⟨W0.heap.size, 0, none⟩) 2 2] (W0.alloc (.cells #[.int .i64 c.fr, .int .i64 c.un, .int .i64 (86400 * n), .int .i64 (86400 * n + 86399)] 85)) fun e w' =>
      e = .returned (spv (heldF (mtF [(c.fr, c.un), (86400 * n, 86400 * n + 86399)]) (mtU [(c.fr, c.un), (86400 * n, 86400 * n + 86399)])) (heldU (mtF [(c.fr, c.un), (86400 * n, 86400 * n + 86399)]) (mtU [(c.fr, c.un), (86400 * n, 86400 * n + 86399)]))) ∧ Below W0.heap.size W0 w') := by
    refine (RMeet9_any (some ⟨W0.heap.size, 0, none⟩) 2 [(c.fr, c.un), (86400 * n, 86400 * n + 86399)] _ (by simp) (sl_range (range_new W0 _ _) (by simp))).mono ?_
    rintro e w' ⟨he, hb⟩
    exact ⟨he, (below_new (Below.refl _ _) (Nat.le_refl _)).trans (hb.mono (by simp))⟩
  have cD := hid (fun W => RDay13_any c n W hc h0 h1)
  obtain ⟨X, hX⟩ : ∃ X, heldF (mtF [(c.fr, c.un), (86400 * n, 86400 * n + 86399)]) (mtU [(c.fr, c.un), (86400 * n, 86400 * n + 86399)]) = X := ⟨_, rfl⟩
  obtain ⟨Y, hY⟩ : ∃ Y, heldU (mtF [(c.fr, c.un), (86400 * n, 86400 * n + 86399)]) (mtU [(c.fr, c.un), (86400 * n, 86400 * n + 86399)]) = Y := ⟨_, rfl⟩
  rw [hX, hY] at cM ⊢
  obtain ⟨D, hD⟩ : ∃ D, dayC c n = D := ⟨_, rfl⟩
  rw [hD] at cD ⊢
  have hn : shF n 0 = n := rfl
  rw [← shq_shF] at cD ⊢
  obtain ⟨s, hs⟩ : ∃ s, shF n = s := ⟨_, rfl⟩
  rw [hs] at HD0 cD hn hW0 ⊢
  rw [shq] at cD ⊢
  rw [← hn] at cM h0 h1
  have HW0 := hid hW0
  clear hX hY hD hn hs hW0 hc
  by_cases hxy : X ≤ Y
  · rw [decide_eq_true hxy, Bool.true_and]
    go_enter Tryz.func40, Tryz.ntmps40
    go_upto_region 1 with fail
    rw [HW0.out]
    obtain ⟨q0, q1, q2, q3, q4, q5, q6, q7, q8, q9⟩ := HD0.out.2.1
    obtain ⟨-, -, -, t3, t4⟩ := HD0.out.1.tail
    go_wp2_with fail
    refine cM.out.mono ?_
    rintro e w1 ⟨rfl, hB1⟩
    have hbA := hid (below_new (o := .cells #[.int .i64 X, .int .i64 Y] 85) (Below.refl w1.heap.size w1) (Nat.le_refl _))
    have HD1 := hid ((HD0.out.keep hB1).keep hbA.out)
    obtain ⟨W1, hW1⟩ : ∃ W, w1.alloc (.cells #[.int .i64 X, .int .i64 Y] 85) = W := ⟨_, rfl⟩
    have k1 : W1.cell? ⟨w1.heap.size, 0, none⟩ = some (.int .i64 X) := by rw [← hW1]; simp [go_sem]
    have k2 : W1.cell? ⟨w1.heap.size, 1, none⟩ = some (.int .i64 Y) := by rw [← hW1]; simp [go_sem]
    rw [hW1] at HD1
    have HW1 := hid hW1
    clear hB1 hbA hW1 q0 q1 q2 q3 q4 q5 q6 q7 q8 q9 t3 t4
    obtain ⟨r0, r1, r2, r3, r4, r5, r6, r7, r8, r9⟩ := HD1.out.2.1
    have l1 := HD1.out.1.ld
    go_upto_region 3 with fail
    rw [HW1.out]
    have hd : decide (X ≤ Y) = true := decide_eq_true hxy
    go_wp2_with fail
    refine (cD.out _).mono ?_
    rintro e w2 ⟨rfl, hB2⟩
    have HD2 := hid (HD1.out.keep hB2)
    clear hB2 l1 r0 r1 r2 r3 r4 r5 r6 r7 r8 r9
    go_wp2
    go_ret
    exact ⟨rfl, HD2.out.2.2.1⟩
  · rw [decide_eq_false (by omega : ¬ X ≤ Y), Bool.false_and]
    go_enter Tryz.func40, Tryz.ntmps40
    go_upto_region 1 with fail
    rw [HW0.out]
    obtain ⟨q0, q1, q2, q3, q4, q5, q6, q7, q8, q9⟩ := HD0.out.2.1
    obtain ⟨-, -, -, t3, t4⟩ := HD0.out.1.tail
    go_wp2_with fail
    refine cM.out.mono ?_
    rintro e w1 ⟨rfl, hB1⟩
    have hbA := hid (below_new (o := .cells #[.int .i64 X, .int .i64 Y] 85) (Below.refl w1.heap.size w1) (Nat.le_refl _))
    have HD1 := hid ((HD0.out.keep hB1).keep hbA.out)
    obtain ⟨W1, hW1⟩ : ∃ W, w1.alloc (.cells #[.int .i64 X, .int .i64 Y] 85) = W := ⟨_, rfl⟩
    have k1 : W1.cell? ⟨w1.heap.size, 0, none⟩ = some (.int .i64 X) := by rw [← hW1]; simp [go_sem]
    have k2 : W1.cell? ⟨w1.heap.size, 1, none⟩ = some (.int .i64 Y) := by rw [← hW1]; simp [go_sem]
    rw [hW1] at HD1
    have HW1 := hid hW1
    clear hB1 hbA hW1 q0 q1 q2 q3 q4 q5 q6 q7 q8 q9 t3 t4
    obtain ⟨r0, r1, r2, r3, r4, r5, r6, r7, r8, r9⟩ := HD1.out.2.1
    have l1 := HD1.out.1.ld
    go_upto_region 3 with fail
    rw [HW1.out]
    have hd : decide (X ≤ Y) = false := decide_eq_false (by omega)
    go_wp2
    go_ret
    exact ⟨rfl, HD1.out.2.2.1⟩

/-! ### feriaref14.Active -/
def liveN (cs : List Cl) (n : Int) : Nat → List Int
  | 0 => []
  | k + 1 => liveN cs n k ++ (if liveD (atC cs k) n then [(k : Int)] else [])
theorem liveN_mem {cs : List Cl} {n : Int} {i : Nat} : ∀ {k : Nat}, (i : Int) ∈ liveN cs n k ↔ i < k ∧ liveD (atC cs i) n = true
  | 0 => by simp [liveN]
  | k + 1 => by
    rw [liveN, List.mem_append, liveN_mem]
    by_cases h : liveD (atC cs k) n = true
    · rw [if_pos h, List.mem_singleton]
      constructor
      · rintro (⟨h1, h2⟩ | e)
        · exact ⟨by omega, h2⟩
        · obtain rfl : i = k := by omega
          exact ⟨by omega, h⟩
      · rintro ⟨h1, h2⟩
        by_cases e : i = k
        · exact .inr (by omega)
        · exact .inl ⟨by omega, h2⟩
    · rw [if_neg h]
      constructor
      · rintro (⟨h1, h2⟩ | h1)
        · exact ⟨by omega, h2⟩
        · cases h1
      · rintro ⟨h1, h2⟩
        by_cases e : i = k
        · subst e; exact absurd h2 h
        · exact .inl ⟨by omega, h2⟩
theorem liveN_len (cs : List Cl) (n : Int) : ∀ k, (liveN cs n k).length ≤ k
  | 0 => by simp [liveN]
  | k + 1 => by have := liveN_len cs n k; rw [liveN, List.length_append]; split <;> simp <;> omega
theorem liveN_act (cs : List Cl) (n : Int) : ofM (liveN cs n (min cs.length 64)) = actM cs n := by
  rw [ofM, actM]
  refine mk_congr fun i hi => ?_
  rw [inB, Bool.eq_iff_iff]
  simp only [Bool.and_eq_true, decide_eq_true_eq, liveN_mem]
  constructor
  · rintro ⟨h1, h2⟩; exact ⟨by omega, h2⟩
  · rintro ⟨h1, h2⟩; exact ⟨by omega, h2⟩
structure RvF (w : World) (v : Value) (L : List Int) (s : Nat → Int) (W : World) : Prop where
  own : W.ownsRow (w.heap.size + 1) 3 1 v L.length (ints L)
  sh : ShS W w.heap.size s
  be : Below w.heap.size w W
  l : w.heap.size < W.heap.size
theorem RvF.keep {w W W' : World} {v : Value} {L : List Int} {s : Nat → Int} (h : RvF w v L s W) (hb : Below W.heap.size W W') : RvF w v L s W' :=
  ⟨owns_below h.own hb (Nat.le_refl _), h.sh.below hb h.l, h.be.trans (hb.mono (by have := h.l; omega)), Nat.lt_of_lt_of_le h.l hb.size⟩
abbrev RvS (w : World) (v : Value) (L : List Int) (s : Nat → Int) (b o : Nat) (c : Cl) (W : World) : Prop :=
  (loadClS (.pointer (some ⟨b, o, none⟩))).run Tryz.prog W = .ok (clv c) W ∧ ShS W w.heap.size s ∧ RvF w v L s W ∧ Hid (W.rangeAt b o (clList c)) ∧ b < W.heap.size
theorem RvS.mk' {w : World} {v : Value} {L : List Int} {s : Nat → Int} {b o : Nat} {c : Cl} {W : World} (h : RvF w v L s W) (hr : W.rangeAt b o (clList c)) (hb : b < W.heap.size) : RvS w v L s b o c W := ⟨ld_at hr, h.sh, h, hr, hb⟩
theorem sh_grown {w W W' : World} {s : Nat → Int} {row : Option Nat} (h : ShS W w.heap.size s) (hg : W.grownBy W' row) (hr : ∀ k, row = some k → w.heap.size + 1 ≤ k) (hl : w.heap.size < W.heap.size) : ShS W' w.heap.size s := by
  have hb : Below (w.heap.size + 1) W W' := Below.of_grown hg hl hr
  exact ShC.below h hb (by omega)
end Go.Proofs.YtbfjceegfpddkaaGreatDoor

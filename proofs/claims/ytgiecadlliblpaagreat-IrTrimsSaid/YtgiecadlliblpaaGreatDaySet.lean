/-
  span.Days.
  day.live: the clauses that have days.
  day.active: the mask of the clauses that are active on a day; day.bounds: the first and the last day of some.
  day.bounds; day.All makes a function that tells the days of a set, each with its active clauses.
-/
import Derived.Test.YtgiecadlliblpaaGreatDayLaw
import Derived.Test.YtgiecadlliblpaaGreatClDcs
import Derived.Test.YtgiecadlliblpaaGreatClHasFn
import Derived.BigQuiet
import Derived.Deep.CutRange
import Derived.Test.YtgiecadlliblpaaGreatClSh
import Derived.Deep.RegionHeld3
import Derived.Test.YtgiecadlliblpaaGreatWeekIter
namespace Go.Proofs.YtgiecadlliblpaaGreat
open Go.RowKit
set_option linter.unusedVariables false

theorem held_twice (f u : Int) : heldF (heldF f u) (heldU f u) = heldF f u ∧ heldU (heldF f u) (heldU f u) = heldU f u := by
  rcases held_cases f u with ⟨e1, e2, h⟩ | ⟨e1, e2, h⟩ <;> rcases held_cases (heldF f u) (heldU f u) with ⟨g1, g2, k⟩ | ⟨g1, g2, k⟩ <;> rw [g1, g2] <;> rw [e1, e2] at * <;> omega
theorem heldB_cases (f u : Int) : (heldB f u = true ∧ 0 ≤ heldF f u ∧ heldF f u < 12622780800 ∧ 0 ≤ heldU f u ∧ heldU f u < 12622780800) ∨ (heldB f u = false ∧ heldF f u = 0 ∧ heldU f u = -1) := by
  cases hb : heldB f u
  · right; unfold heldF heldU; rw [hb]; exact ⟨rfl, rfl, rfl⟩
  · left
    have h : max f 0 ≤ min u 12622780799 := by simpa only [heldB, decide_eq_true_eq] using hb
    unfold heldF heldU; rw [hb, if_pos rfl, if_pos rfl]; refine ⟨rfl, ?_⟩; omega
set_option maxHeartbeats 1600000 in
theorem SDays_any (c : Cl) (w : World) : Calls Tryz.prog 100 #[spv (heldF c.fr c.un) (heldU c.fr c.un)] w fun e w' => e = .returned (.tuple #[.int .i64 (if heldB c.fr c.un then frD c else 0), .int .i64 (if heldB c.fr c.un then unD c else 0), .bool (heldB c.fr c.un)]) ∧ Below w.heap.size w w' := by
  have c0 := hid (fun W => SHeld_any (heldF c.fr c.un) (heldU c.fr c.un) W)
  rw [(held_twice c.fr c.un).1, (held_twice c.fr c.un).2] at c0
  have hcase := heldB_cases c.fr c.un
  unfold frD unD
  obtain ⟨f, hf⟩ : ∃ f, heldF c.fr c.un = f := ⟨_, rfl⟩
  obtain ⟨u, hu⟩ : ∃ u, heldU c.fr c.un = u := ⟨_, rfl⟩
  obtain ⟨b, hb⟩ : ∃ b, heldB c.fr c.un = b := ⟨_, rfl⟩
  rw [hf, hu] at c0
  rw [hf, hu, hb] at hcase ⊢
  clear hf hu hb
  rcases hcase with ⟨rfl, h0, h1, h2, h3⟩ | ⟨rfl, rfl, rfl⟩
  · have c1 := hid (fun W => Split_yes f W h0 h1)
    have c2 := hid (fun W => Split_yes u W h2 h3)
    obtain ⟨q1, hq1⟩ : ∃ q, f / 86400 = q := ⟨_, rfl⟩
    obtain ⟨q2, hq2⟩ : ∃ q, u / 86400 = q := ⟨_, rfl⟩
    obtain ⟨r1, hr1⟩ : ∃ q, f % 86400 = q := ⟨_, rfl⟩
    obtain ⟨r2, hr2⟩ : ∃ q, u % 86400 = q := ⟨_, rfl⟩
    rw [hq1, hr1] at c1
    rw [hq2, hr2] at c2
    rw [if_pos rfl, if_pos rfl, hq1, hq2]
    clear hq1 hq2 hr1 hr2
    go_enter Tryz.func100, Tryz.ntmps100
    go_wp2_with fail
    refine (c0.out _).mono ?_
    rintro e w1 ⟨rfl, hB1⟩
    have k1 := (hB1.cell (p := ⟨w.heap.size, 0, none⟩) (by simp)).trans (show _ = some (.int .i64 f) by simp [go_sem])
    have k2 := (hB1.cell (p := ⟨w.heap.size, 1, none⟩) (by simp)).trans (show _ = some (.int .i64 u) by simp [go_sem])
    have f1 := (hB1.frozen (p := ⟨w.heap.size, 0, none⟩) (by simp)).trans (show _ = false by simp [go_sem])
    have f2 := (hB1.frozen (p := ⟨w.heap.size, 1, none⟩) (by simp)).trans (show _ = false by simp [go_sem])
    have HB1 : Hid (Below w.heap.size w w1) := (below_new (Below.refl _ _) (Nat.le_refl _)).trans (hB1.mono (by simp))
    clear hB1
    go_wp2_with (first
      | (go_at_call 39; with_reducible refine (c1.out _).mono ?_; rintro e w' ⟨rfl, rfl⟩)
      | (go_at_call 39; with_reducible refine (c2.out _).mono ?_; rintro e w' ⟨rfl, rfl⟩))
    exact bodyPost_ret (v := .tuple #[.int .i64 q1, .int .i64 q2, .bool true]) (by simp [results, Tryz.results100, go_sem]) rfl ⟨rfl, below_set (below_set HB1.out (Nat.le_refl _)) (Nat.le_refl _)⟩
  · have c1 := hid (fun W => Split_yes 0 W (by omega) (by omega))
    have c2 := hid (fun W => Split_no (-1) W rfl)
    rw [show (0 : Int) / 86400 = 0 from rfl, show (0 : Int) % 86400 = 0 from rfl] at c1
    rw [if_neg (by simp), if_neg (by simp)]
    go_enter Tryz.func100, Tryz.ntmps100
    go_wp2_with fail
    refine (c0.out _).mono ?_
    rintro e w1 ⟨rfl, hB1⟩
    have k1 := (hB1.cell (p := ⟨w.heap.size, 0, none⟩) (by simp)).trans (show _ = some (.int .i64 0) by simp [go_sem])
    have k2 := (hB1.cell (p := ⟨w.heap.size, 1, none⟩) (by simp)).trans (show _ = some (.int .i64 (-1)) by simp [go_sem])
    have f1 := (hB1.frozen (p := ⟨w.heap.size, 0, none⟩) (by simp)).trans (show _ = false by simp [go_sem])
    have f2 := (hB1.frozen (p := ⟨w.heap.size, 1, none⟩) (by simp)).trans (show _ = false by simp [go_sem])
    have HB1 : Hid (Below w.heap.size w w1) := (below_new (Below.refl _ _) (Nat.le_refl _)).trans (hB1.mono (by simp))
    clear hB1
    go_wp2_with (first
      | (go_at_call 39; with_reducible refine (c1.out _).mono ?_; rintro e w' ⟨rfl, rfl⟩)
      | (go_at_call 39; with_reducible refine (c2.out _).mono ?_; rintro e w' ⟨rfl, rfl⟩))
    exact bodyPost_ret (v := .tuple #[.int .i64 0, .int .i64 0, .bool false]) (by simp [results, Tryz.results100, go_sem]) rfl ⟨rfl, below_set (below_set HB1.out (Nat.le_refl _)) (Nat.le_refl _)⟩

/-! ### the rows of live clauses -/
structure Row where
  i : Nat
  x1 : Nat
  x2 : Nat
  lo : Nat
  hi : Nat
abbrev rowC (cs : List Cl) (r : Row) : List Value :=
  [.int .i64 (r.i : Nat), .int .i64 (frD (atC cs r.i)), .int .i64 (unD (atC cs r.i)), .func (.func 93) #[] #[.pointer (some ⟨r.x1, 0, none⟩), .pointer (some ⟨r.x2, 0, none⟩)]]
def onesC (cs : List Cl) (l : List Row) : List Value := l.flatMap (rowC cs)
theorem onesC_snoc (cs : List Cl) (l : List Row) (r : Row) : onesC cs (l ++ [r]) = onesC cs l ++ rowC cs r := by simp [onesC]
theorem onesC_len (cs : List Cl) (l : List Row) : (onesC cs l).length = l.length * 4 := by
  induction l with
  | nil => rfl
  | cons r l ih =>
    rw [show onesC cs (r :: l) = rowC cs r ++ onesC cs l by simp [onesC], List.length_append, ih]
    simp only [List.length_cons, List.length_nil]; omega
theorem onesC_get (cs : List Cl) : ∀ (l : List Row) (k : Nat) (hk : k < l.length) (i : Nat) (hi : i < 4), (onesC cs l)[k * 4 + i]? = (rowC cs l[k])[i]? := by
  intro l
  induction l with
  | nil => intro k hk; simp at hk
  | cons r l ih =>
    intro k hk i hi
    rw [show onesC cs (r :: l) = rowC cs r ++ onesC cs l by simp [onesC]]
    cases k with
    | zero =>
      rw [Nat.zero_mul, Nat.zero_add, List.getElem?_append_left (by exact hi)]
      rfl
    | succ k =>
      rw [List.getElem?_append_right (by show 4 ≤ _; omega), show (k + 1) * 4 + i - (rowC cs r).length = k * 4 + i by show (k + 1) * 4 + i - 4 = _; omega, ih k (by simp at hk; omega) i hi]
      rfl
/-- what stands of a row in a world -/
def RowOk (cs : List Cl) (lo : Nat) (W : World) (r : Row) : Prop := lo ≤ r.lo ∧ r.hi ≤ W.heap.size ∧ DCS W r.lo r.hi (atC cs r.i) r.x1 r.x2
/-- live's slice, on the way -/
structure LvI (w : World) (cs : List Cl) (k : Nat) (v : Value) (l : List Row) (W : World) : Prop where
  own : W.ownsRow w.heap.size 130 4 v l.length (onesC cs l)
  idx : l.map (·.i) = liveI cs k
  row : ∀ r ∈ l, RowOk cs w.heap.size W r
  out : ∀ g, v.ownBlock = some g → ∀ r ∈ l, g < r.lo ∨ r.hi ≤ g
  be : Below w.heap.size w W
theorem LvI.keep {w W W' : World} {cs : List Cl} {k : Nat} {v : Value} {l : List Row} (h : LvI w cs k v l W) (hb : Below W.heap.size W W') : LvI w cs k v l W' :=
  ⟨owns_below h.own hb (Nat.le_refl _), h.idx, fun r hr => by
    obtain ⟨a, b, c⟩ := h.row r hr
    exact ⟨a, Nat.le_trans b hb.size, c.below b hb⟩, h.out, h.be.trans (hb.mono h.be.size)⟩
theorem LvI.skip {w W : World} {cs : List Cl} {k : Nat} {v : Value} {l : List Row} (h : LvI w cs k v l W) (hk : okD (atC cs k) = false) : LvI w cs (k + 1) v l W :=
  ⟨h.own, by rw [h.idx, liveI, hk, if_neg (by simp), List.append_nil], h.row, h.out, h.be⟩
theorem LvI.push {w W W' : World} {cs : List Cl} {k : Nat} {v v' : Value} {l : List Row} {x1 x2 lo : Nat} (h : LvI w cs k v l W) (hk : okD (atC cs k) = true) (hd : DCS W lo W.heap.size (atC cs k) x1 x2) (hlo : w.heap.size ≤ lo)
    (hv : ∀ g, v.ownBlock = some g → g < lo) (ho : W'.ownsRow w.heap.size 130 4 v' (l.length + 1) (onesC cs l ++ rowC cs ⟨k, x1, x2, lo, W.heap.size⟩)) (hg : W.grownBy W' v.ownBlock) (hb : Below w.heap.size W W')
    (hf : ∀ k, v'.ownBlock = some k → v.ownBlock = some k ∨ W.heap.size ≤ k) : LvI w cs (k + 1) v' (l ++ [⟨k, x1, x2, lo, W.heap.size⟩]) W' := by
  have keepD : ∀ {a b i y1 y2 : Nat}, b ≤ W.heap.size → (∀ g, v.ownBlock = some g → g < a ∨ b ≤ g) → DCS W a b (atC cs i) y1 y2 → DCS W' a b (atC cs i) y1 y2 := fun hb2 ho2 hd2 =>
    hd2.call (Nat.le_trans hb2 hg.size) (fun b h1 h2 => hg.block b (by omega) (fun e => by rcases ho2 b e.symm with h3 | h3 <;> omega))
  refine ⟨by rw [onesC_snoc, List.length_append]; exact ho, by rw [List.map_append, h.idx, liveI, if_pos hk]; rfl, fun r hr => ?_, fun g hg2 r hr => ?_, h.be.trans hb⟩
  · rcases List.mem_append.1 hr with hr | hr
    · obtain ⟨a, b, c⟩ := h.row r hr
      exact ⟨a, Nat.le_trans b hg.size, keepD b (fun g e => h.out g e r hr) c⟩
    · obtain rfl := List.mem_singleton.1 hr
      exact ⟨hlo, hg.size, keepD (Nat.le_refl _) (fun g e => .inl (hv g e)) hd⟩
  · rcases List.mem_append.1 hr with hr | hr
    · rcases hf g hg2 with e | e
      · exact h.out g e r hr
      · exact .inr (Nat.le_trans (h.row r hr).2.1 e)
    · obtain rfl := List.mem_singleton.1 hr
      rcases hf g hg2 with e | e
      · exact .inl (hv g e)
      · exact .inr e
/-- live's slice, when it has come back: as long as its blocks stand -/
structure LivS (W : World) (cs : List Cl) (lo hi : Nat) (a : Option Addr) (l : List Row) : Prop where
  sl : Sl W a (onesC cs l)
  idx : l.map (·.i) = liveI cs (min cs.length 64)
  row : ∀ r ∈ l, lo ≤ r.lo ∧ r.hi ≤ hi ∧ DCS W r.lo r.hi (atC cs r.i) r.x1 r.x2
  at_ : ∀ b off, a = some ⟨b, off, none⟩ → lo ≤ b ∧ b < hi
  le : hi ≤ W.heap.size
theorem LivS.keep {W W' : World} {cs : List Cl} {lo hi : Nat} {a : Option Addr} {l : List Row} (h : LivS W cs lo hi a l) (hs : hi ≤ W'.heap.size) (hb : ∀ b, lo ≤ b → b < hi → W'.heap[b]? = W.heap[b]?) : LivS W' cs lo hi a l := by
  refine ⟨?_, h.idx, fun r hr => ?_, h.at_, hs⟩
  · rcases h.sl with e | ⟨b, off, rfl, hlt, hc⟩
    · exact .inl e
    · obtain ⟨h1, h2⟩ := h.at_ b off rfl
      exact .inr ⟨b, off, rfl, by omega, fun j hj => (World.cell?_of_block (w := W) (a := ⟨b, off + j, none⟩) (hb b h1 h2)).trans (hc j hj)⟩
  · obtain ⟨h1, h2, h3⟩ := h.row r hr
    exact ⟨h1, h2, h3.call (by omega) (fun b g1 g2 => hb b (by omega) (by omega))⟩
theorem LivS.below {W W' : World} {cs : List Cl} {lo hi : Nat} {a : Option Addr} {l : List Row} (h : LivS W cs lo hi a l) (hb : Below W.heap.size W W') : LivS W' cs lo hi a l :=
  h.keep (Nat.le_trans h.le hb.size) (fun b _ h2 => hb.block b (by have := h.le; omega))
def LivR (W : World) (cs : List Cl) (lo : Nat) (v : Value) : Prop := ∃ a n cap l, v = .slice a n cap ∧ Hid (n = l.length) ∧ LivS W cs lo W.heap.size a l
theorem LvI.ret {w W : World} {cs : List Cl} {v : Value} {l : List Row} (h : LvI w cs (min cs.length 64) v l W) : LivR W cs w.heap.size v := by
  obtain ⟨a, cap, rfl, hs, _⟩ := owns_form h.own
  refine ⟨a, l.length, cap, l, rfl, rfl, hs, h.idx, fun r hr => h.row r hr, fun b off e => ?_, Nat.le_refl _⟩
  have hh := h.own.2
  rcases hh with ⟨e2, _⟩ | ⟨g', c, cur, e2, g2, h2, _⟩
  · subst e; cases e2
  · subst e
    simp only [Value.slice.injEq, Option.some.injEq, Addr.mk.injEq] at e2
    obtain ⟨⟨rfl, _⟩, _⟩ := e2
    exact ⟨g2, (Array.getElem?_eq_some_iff.1 h2).1⟩
theorem LivS.at {W : World} {cs : List Cl} {lo hi : Nat} {a : Option Addr} {l : List Row} (h : LivS W cs lo hi a l) {k : Nat} (hk : k < l.length) :
    ∃ b off, a = some ⟨b, off, none⟩ ∧ b < W.heap.size ∧ W.rangeAt b (off + k * 4) (rowC cs l[k]) := by
  obtain ⟨b, off, rfl, hlt, hc⟩ := Sl.at h.sl (k := k * 4) (by rw [onesC_len]; omega)
  refine ⟨b, off, rfl, hlt, fun j v hv => ?_⟩
  have hj : j < 4 := (List.getElem?_eq_some_iff.1 hv).1
  rw [← onesC_get cs l k hk j hj] at hv
  obtain ⟨h1, h2⟩ := List.getElem?_eq_some_iff.1 hv
  rw [Nat.add_assoc, hc _ h1, h2]

theorem eOne : El Tryz.prog 112 130 (.agg #[.int .i64 0, .int .i64 0, .int .i64 0, .nilFunc]) 4 32 := ⟨Tryz.underlying112, by kernel_rfl, by kernel_rfl, by decide⟩
theorem row_one (cs : List Cl) (r : Row) : ∀ u ∈ rowC cs r, u.oneCell' = true := by
  intro u hu
  simp only [rowC, List.mem_cons, List.not_mem_nil, or_false] at hu
  rcases hu with rfl | rfl | rfl | rfl <;> rfl
attribute [local go_sem ↓] loadAt_cl storeAt_cl
attribute [local go_sem] run_storeClS
set_option maxRecDepth 100000 in
set_option maxHeartbeats 6400000 in
theorem Live_any (a : Option Addr) (cap : Nat) (cs : List Cl) (w : World) (hl : cs.length ≤ 9223372036854775807) (hs : Sl w a (cls cs)) (hok : ∀ c ∈ cs, c.Ok) :
    Calls Tryz.prog 77 #[.slice a cs.length cap] w fun e w' => (∃ v, e = .returned v ∧ LivR w' cs w.heap.size v) ∧ Below w.heap.size w w' := by
  have Hs := hid hs
  have Hok := hid hok
  clear hs hok
  go_enter Tryz.func77, Tryz.ntmps77
  go_wp2
  go_loopw [3, 11] (fun v i wr => ∃ (k : Nat) (l : List Row), i = .int .i64 k ∧ k ≤ cs.length ∧ k ≤ 64 ∧ Hid (LvI w cs k v l wr)) (fun _ i _ => cs.length - (intOf i).toNat)
  case atStart => exact ⟨0, [], rfl, by omega, by omega, ⟨⟨rfl, .inl ⟨rfl, rfl⟩⟩, rfl, fun r hr => (by cases hr), fun g _ r hr => (by cases hr), Below.refl _ _⟩⟩
  case round =>
    obtain ⟨k, l, rfl, hk, hk64, HI⟩ := hrel
    by_cases hlt : k < cs.length
    · obtain ⟨b, off, rfl, hbk, hr⟩ := Hs.out.atCl hlt
      have hr' := range_below hr HI.out.be hbk
      have hcOk := hid (Hok.out _ (List.getElem_mem hlt))
      have hat := atC_get hlt
      obtain ⟨c, hc⟩ : ∃ c, cs[k] = c := ⟨_, rfl⟩
      rw [hc] at hr' hcOk hat
      have Hat := hid hat
      clear hc hr hat
      have le := ld_at hr'
      have hth2 : (wr.alloc (.cells zL.toArray 40)).there wr.heap.size 0 30 := there_new wr _ _
      have hn2 := below_new (o := .cells zL.toArray 40) (Below.refl wr.heap.size wr) (Nat.le_refl _)
      have hC1 : ClB (putCl (wr.alloc (.cells zL.toArray 40)) wr.heap.size (clList c)) wr.heap.size c := putCl_range _ rfl hth2
      have le1 := hC1.ld
      have hb1 : Below wr.heap.size wr (putCl (wr.alloc (.cells zL.toArray 40)) wr.heap.size (clList c)) := putCl_below hn2 (Nat.le_refl _) _
      have hs1 : wr.heap.size + 1 ≤ (putCl (wr.alloc (.cells zL.toArray 40)) wr.heap.size (clList c)).heap.size := by rw [putCl_eq, size_setCells, World.size_alloc]; omega
      obtain ⟨W1, hW1⟩ : ∃ W, putCl (wr.alloc (.cells zL.toArray 40)) wr.heap.size (clList c) = W := ⟨_, rfl⟩
      rw [hW1] at hC1 hb1 hs1 le1
      have HC1 := hid hC1
      have HI1 := hid (HI.out.keep hb1)
      have Hs1 := hid hs1
      have HW1 := hid hW1
      clear hn2 hb1 hs1 hC1 hW1
      by_cases h64 : 64 ≤ k
      · have hmin : Hid (min cs.length 64 = k) := by show _ = _; omega
        go_upto_region 5 with fail
        rw [HW1.out]
        clear le le1 hth2
        go_wp2
        go_ret
        have hret := HI1.out
        rw [← hmin.out] at hret
        exact ⟨⟨_, rfl, hret.ret⟩, HI1.out.be⟩
      · have h64' : k < 64 := by omega
        have hll : Hid (l.length ≤ k) := by
          have h1 := congrArg List.length HI.out.idx
          rw [List.length_map] at h1
          have h2 := liveI_len cs k
          show _ ≤ _; omega
        have cS := hid (fun W => CSpan_any c W)
        have cD := hid (fun W => SDays_any c W)
        have cM := hid (fun W => CMayCl_any c W hcOk.out)
        have cF := hid (fun W => CDays_any c W hcOk.out)
        obtain ⟨b1, hb1⟩ : ∃ b, wr.heap.size = b := ⟨_, rfl⟩
        have Hb1 := hid hb1
        cases hh : heldB c.fr c.un
        · have hno : Hid (okD (atC cs k) = false) := by show _ = _; rw [Hat.out, okD, hh]; rfl
          rw [hh, if_neg (by simp), if_neg (by simp)] at cD
          clear hh hb1
          go_upto_region 5 with fail
          rw [HW1.out]
          clear le hth2
          go_wp2_with fail
          refine (cS.out _).mono ?_
          rintro e w1 ⟨rfl, hB1⟩
          have HI2 := hid (HI1.out.keep hB1)
          clear hB1 le1
          go_wp2_with fail
          refine (cD.out _).mono ?_
          rintro e w2 ⟨rfl, hB2⟩
          have HI3 := hid (HI2.out.keep hB2)
          clear hB2
          go_wp2
          go_roundw
          case rel => exact ⟨k + 1, l, by go_num, by omega, by omega, HI3.out.skip hno.out⟩
          case measure => simp [intOf]; omega
        · cases hm : mayC c
          · have hno : Hid (okD (atC cs k) = false) := by show _ = _; rw [Hat.out, okD, hm, Bool.and_false]
            rw [hh, if_pos rfl, if_pos rfl] at cD
            rw [hm] at cM
            clear hh hb1 hm
            go_upto_region 5 with fail
            rw [HW1.out]
            clear le hth2
            go_wp2_with fail
            refine (cS.out _).mono ?_
            rintro e w1 ⟨rfl, hB1⟩
            have HI2 := hid (HI1.out.keep hB1)
            have HC2 := hid (HC1.out.below hB1 Hs1.out)
            have Hs2 := hid (Nat.le_trans Hs1.out hB1.size)
            clear hB1 le1
            go_wp2_with fail
            refine (cD.out _).mono ?_
            rintro e w2 ⟨rfl, hB2⟩
            have HI3 := hid (HI2.out.keep hB2)
            have HC3 := hid (HC2.out.below hB2 Hs2.out)
            have le3 := HC3.out.ld
            clear hB2
            go_wp2_with fail
            refine (cM.out _).mono ?_
            rintro e w3 ⟨rfl, hB3⟩
            have HI4 := hid (HI3.out.keep hB3)
            clear hB3 le3
            go_wp2
            go_roundw
            case rel => exact ⟨k + 1, l, by go_num, by omega, by omega, HI4.out.skip hno.out⟩
            case measure => simp [intOf]; omega
          · have hyes : Hid (okD (atC cs k) = true) := by show _ = _; rw [Hat.out, okD, hm, hh]; rfl
            rw [hh, if_pos rfl, if_pos rfl] at cD
            rw [hm] at cM
            have Hm := hid hm
            clear hh hb1 hm
            go_upto_region 5 with fail
            rw [HW1.out]
            clear le hth2
            go_wp2_with fail
            refine (cS.out _).mono ?_
            rintro e w1 ⟨rfl, hB1⟩
            have HI2 := hid (HI1.out.keep hB1)
            have HC2 := hid (HC1.out.below hB1 Hs1.out)
            have Hs2 := hid (Nat.le_trans Hs1.out hB1.size)
            clear hB1 le1
            go_wp2_with fail
            refine (cD.out _).mono ?_
            rintro e w2 ⟨rfl, hB2⟩
            have HI3 := hid (HI2.out.keep hB2)
            have HC3 := hid (HC2.out.below hB2 Hs2.out)
            have Hs3 := hid (Nat.le_trans Hs2.out hB2.size)
            have le3 := HC3.out.ld
            clear hB2
            go_wp2_with fail
            refine (cM.out _).mono ?_
            rintro e w3 ⟨rfl, hB3⟩
            have HI4 := hid (HI3.out.keep hB3)
            have HC4 := hid (HC3.out.below hB3 Hs3.out)
            have le4 := HC4.out.ld
            clear hB3 le3
            go_wp2_with fail
            refine (cF.out _).mono ?_
            rintro e w4 ⟨fv, rfl, hV, hB4⟩
            obtain ⟨x1, x2, rfl, hD⟩ := hV.dcs Hm.out hcOk.out
            have HD := hid hD
            have HI5 := hid (HI4.out.keep hB4)
            have Hv := hid (fun g e => (HI4.out.own.lt g e).2)
            have H34 := hid HI4.out.be.size
            clear hB4 le4 hV hD
            obtain ⟨F, hF⟩ : ∃ F, frD c = F := ⟨_, rfl⟩
            obtain ⟨U, hU⟩ : ∃ U, unD c = U := ⟨_, rfl⟩
            rw [hF, hU]
            have Hrow : Hid ([.int .i64 (k : Nat), .int .i64 F, .int .i64 U, .func (.func 93) #[] #[.pointer (some ⟨x1, 0, none⟩), .pointer (some ⟨x2, 0, none⟩)]] = rowC cs ⟨k, x1, x2, w3.heap.size, w4.heap.size⟩) := by
              show _ = [_, _, _, _]
              rw [Hat.out, hF, hU]
            clear hF hU
            go_wp2_with (at_builtin; refine appLit eOne (.tmp 30) (.tmp 37) rfl rfl rfl rfl rfl HI5.out.own rfl (by rw [Hrow.out]; exact row_one _ _) (by have := hll.out; omega) (by have := hll.out; omega) HI5.out.be.size ?_)
            intro a' cap' w5 h1 h2 h3 h4
            have HP : Hid (LvI w cs (k + 1) (.slice a' (l.length + 1) cap') (l ++ [⟨k, x1, x2, w3.heap.size, w4.heap.size⟩]) w5) := by
              refine HI5.out.push hyes.out (by rw [Hat.out]; exact HD.out) H34.out Hv.out ?_ h2 h3 h4
              rw [← Hrow.out]; exact h1
            clear h1 h2 h3 h4
            go_wp2
            go_roundw
            case rel => exact ⟨k + 1, _, by go_num, by omega, by omega, HP⟩
            case measure => simp [intOf]; omega
    · have hke : Hid (min cs.length 64 = k) := by show _ = _; omega
      have hlt' : ¬ (k : Int) < cs.length := by omega
      go_wp2
      go_ret
      have hret := HI.out
      rw [← hke.out] at hret
      exact ⟨⟨_, rfl, hret.ret⟩, HI.out.be⟩
end Go.Proofs.YtgiecadlliblpaaGreat
namespace Go.Proofs.YtgiecadlliblpaaGreat
open Go.RowKit
set_option linter.unusedVariables false

/-- the mask of the first k live clauses that are active on a day -/
def parM (cs : List Cl) (n : Int) (k : Nat) : Nat := mk fun i => decide (i ∈ (liveI cs (min cs.length 64)).take k) && onD (atC cs i) n
theorem parM_zero (cs : List Cl) (n : Int) : parM cs n 0 = 0 := by
  rw [parM]; exact (mk_congr fun i _ => by simp).trans mk_false
theorem parM_lt (cs : List Cl) (n : Int) (k : Nat) : parM cs n k < 18446744073709551616 := mk_lt _
theorem parM_yes {cs : List Cl} {n : Int} {k i : Nat} (hi : (liveI cs (min cs.length 64))[k]? = some i) (h : onD (atC cs i) n = true) (h64 : i < 64) : parM cs n k ||| 2 ^ i = parM cs n (k + 1) := by
  obtain ⟨hk, he⟩ := List.getElem?_eq_some_iff.1 hi
  rw [parM, mk_or h64, parM]
  refine mk_congr fun j hj => ?_
  rw [take_snoc _ k hk, he]
  by_cases e : j = i
  · subst e; simp [h]
  · simp [e]
theorem parM_no {cs : List Cl} {n : Int} {k i : Nat} (hi : (liveI cs (min cs.length 64))[k]? = some i) (h : onD (atC cs i) n = false) : parM cs n (k + 1) = parM cs n k := by
  obtain ⟨hk, he⟩ := List.getElem?_eq_some_iff.1 hi
  rw [parM, parM]
  refine mk_congr fun j hj => ?_
  rw [take_snoc _ k hk, he]
  by_cases e : j = i
  · subst e; simp [h]
  · simp [e]
theorem parM_all {cs : List Cl} {n : Int} {k : Nat} (h : (liveI cs (min cs.length 64)).length = k) : parM cs n k = actM cs n := by
  rw [parM, ← actM_I, ← h, List.take_length]
structure AcF (w : World) (cs : List Cl) (lo hi : Nat) (a : Option Addr) (l : List Row) (s : Nat → Int) (W : World) : Prop where
  liv : LivS W cs lo hi a l
  sh : ShS W w.heap.size s
  be : Below w.heap.size w W
  l : w.heap.size < W.heap.size
theorem AcF.keep {w W W' : World} {cs : List Cl} {lo hi : Nat} {a : Option Addr} {l : List Row} {s : Nat → Int} (h : AcF w cs lo hi a l s W) (hb : Below W.heap.size W W') : AcF w cs lo hi a l s W' :=
  ⟨h.liv.below hb, h.sh.below hb h.l, h.be.trans (hb.mono (by have := h.l; omega)), Nat.lt_of_lt_of_le h.l hb.size⟩
/-- what a round holds -/
abbrev AcS (w : World) (cs : List Cl) (lo hi : Nat) (a : Option Addr) (l : List Row) (s : Nat → Int) (b o k i x1 x2 : Nat) (F U : Int) (W : World) : Prop :=
  (W.cell? ⟨b, o + k * 4, none⟩ = some (.int .i64 (i : Nat)) ∧ W.cell? ⟨b, o + k * 4 + 1, none⟩ = some (.int .i64 F) ∧ W.cell? ⟨b, o + k * 4 + 2, none⟩ = some (.int .i64 U) ∧ W.cell? ⟨b, o + k * 4 + 3, none⟩ = some (.func (.func 93) #[] #[.pointer (some ⟨x1, 0, none⟩), .pointer (some ⟨x2, 0, none⟩)])) ∧
    ShS W w.heap.size s ∧ b < W.heap.size ∧ AcF w cs lo hi a l s W
theorem AcS.keep {w W W' : World} {cs : List Cl} {lo hi : Nat} {a : Option Addr} {l : List Row} {s : Nat → Int} {b o k i x1 x2 : Nat} {F U : Int} (h : AcS w cs lo hi a l s b o k i x1 x2 F U W) (hb : Below W.heap.size W W') : AcS w cs lo hi a l s b o k i x1 x2 F U W' := by
  obtain ⟨⟨c0, c1, c2, c3⟩, hs, hl, hF⟩ := h
  exact ⟨⟨(hb.cell (p := ⟨b, o + k * 4, none⟩) hl).trans c0, (hb.cell (p := ⟨b, o + k * 4 + 1, none⟩) hl).trans c1, (hb.cell (p := ⟨b, o + k * 4 + 2, none⟩) hl).trans c2, (hb.cell (p := ⟨b, o + k * 4 + 3, none⟩) hl).trans c3⟩, (hF.keep hb).sh, Nat.lt_of_lt_of_le hl hb.size, hF.keep hb⟩
theorem LivS.len {W : World} {cs : List Cl} {lo hi : Nat} {a : Option Addr} {l : List Row} (h : LivS W cs lo hi a l) : (liveI cs (min cs.length 64)).length = l.length ∧ l.length ≤ 64 := by
  have h1 := congrArg List.length h.idx
  rw [List.length_map] at h1
  have h2 := liveI_len cs (min cs.length 64)
  omega
theorem LivS.row' {W : World} {cs : List Cl} {lo hi : Nat} {a : Option Addr} {l : List Row} (h : LivS W cs lo hi a l) {k : Nat} (hk : k < l.length) :
    ∃ b o i x1 x2, a = some ⟨b, o, none⟩ ∧ b < W.heap.size ∧ i < 64 ∧ (liveI cs (min cs.length 64))[k]? = some i ∧
      (W.cell? ⟨b, o + k * 4, none⟩ = some (.int .i64 (i : Nat)) ∧ W.cell? ⟨b, o + k * 4 + 1, none⟩ = some (.int .i64 (frD (atC cs i))) ∧ W.cell? ⟨b, o + k * 4 + 2, none⟩ = some (.int .i64 (unD (atC cs i))) ∧ W.cell? ⟨b, o + k * 4 + 3, none⟩ = some (.func (.func 93) #[] #[.pointer (some ⟨x1, 0, none⟩), .pointer (some ⟨x2, 0, none⟩)])) ∧
      ∀ W', LivS W' cs lo hi a l → ∀ n, 0 ≤ n → n < 146097 → Calls Tryz.prog 93 #[shN n, .pointer (some ⟨x1, 0, none⟩), .pointer (some ⟨x2, 0, none⟩)] W' fun e w' => e = .returned (.bool (dayC (atC cs i) n)) ∧ Below W'.heap.size W' w' := by
  obtain ⟨b, o, ha, hb, hr⟩ := h.at hk
  have hx : (liveI cs (min cs.length 64))[k]? = some l[k].i := by rw [← h.idx, List.getElem?_map, List.getElem?_eq_getElem hk]; rfl
  have hm := List.mem_of_getElem? hx
  have h64 := (liveI_mem.1 hm).1
  refine ⟨b, o, l[k].i, l[k].x1, l[k].x2, ha, hb, by omega, hx, ⟨hr 0 _ rfl, hr 1 _ rfl, hr 2 _ rfl, hr 3 _ rfl⟩, fun W' h' n h0 h1 => ?_⟩
  obtain ⟨_, h2, h3⟩ := h'.row _ (List.getElem_mem hk)
  exact h3 n W' h0 h1 (Nat.le_trans h2 h'.le) (fun _ _ _ => rfl)
set_option maxRecDepth 100000 in
set_option maxHeartbeats 3200000 in
theorem Active_any (a : Option Addr) (cap : Nat) (cs : List Cl) (lo hi : Nat) (l : List Row) (n : Int) (w : World) (hL : LivS w cs lo hi a l) (h0 : 0 ≤ n) (h1 : n < 146097) :
    Calls Tryz.prog 81 #[.slice a l.length cap, shN n] w fun e w' => e = .returned (.int .u64 (actM cs n : Nat)) ∧ Below w.heap.size w w' := by
  obtain ⟨hlen, hll⟩ := hL.len
  have Hlen := hid hlen
  have HL0 := hid hL
  have Hn := hid (And.intro h0 h1)
  have es : shF n 0 = n := rfl
  have HF0 : Hid (AcF w cs lo hi a l (shF n) (w.alloc (.cells (shList (shF n)).toArray 53))) :=
    have hb := below_new (o := .cells (shList (shF n)).toArray 53) (Below.refl w.heap.size w) (Nat.le_refl _)
    ⟨hL.below hb, shC_new w 53 _ _ _ _ _ _ _ _ _ _, hb, by simp⟩
  rw [← shq_shF]
  have Hs : Hid (shq (shF n) = shN n) := shq_shF n
  obtain ⟨s, hs⟩ : ∃ s, shF n = s := ⟨_, rfl⟩
  rw [hs] at HF0 Hs es ⊢
  have Es := hid es
  clear hs hL hlen h0 h1 es
  rw [shq]
  go_enter Tryz.func81, Tryz.ntmps81
  obtain ⟨W0, hW0⟩ : ∃ W, w.alloc (.cells (shList s).toArray 53) = W := ⟨_, rfl⟩
  rw [hW0] at HF0
  have HW0 := hid hW0
  clear hW0
  go_upto_region 1 with fail
  rw [HW0.out]
  obtain ⟨s0, s1, s2, s3, s4, s5, s6, s7, s8, s9⟩ := HF0.out.sh
  go_wp2_with fail
  clear s0 s1 s2 s3 s4 s5 s6 s7 s8 s9
  rw [Es.out]
  go_loopw [5, 13] (fun m i wr => ∃ k : Nat, i = .int .i64 k ∧ k ≤ l.length ∧ m = .int .u64 (parM cs n k : Nat) ∧ Hid (AcF w cs lo hi a l s wr)) (fun _ i _ => l.length - (intOf i).toNat)
  case atStart => exact ⟨0, rfl, by omega, by rw [parM_zero]; rfl, HF0⟩
  case round =>
    obtain ⟨k, rfl, hk, rfl, HI⟩ := hrel
    by_cases hlt : k < l.length
    · obtain ⟨b, o, i, x1, x2, rfl, hb, h64, hix, ⟨c0, c1, c2, c3⟩, hcall⟩ := HI.out.liv.row' hlt
      have Hi := hid hix
      have Hc := hid (fun W' (h : LivS W' cs lo hi (some ⟨b, o, none⟩) l) => by have := hcall W' h n Hn.out.1 Hn.out.2; rw [← Hs.out, shq] at this; exact this)
      have hM := parM_lt cs n k
      have hY := hid (fun h => parM_yes hix (n := n) h h64)
      have hN := hid (fun h => parM_no hix (n := n) h)
      have hOn : Hid (onD (atC cs i) n = (decide (frD (atC cs i) ≤ n) && (decide (n ≤ unD (atC cs i)) && dayC (atC cs i) n))) := by show _ = _; rfl
      obtain ⟨F, hF⟩ : ∃ F, frD (atC cs i) = F := ⟨_, rfl⟩
      obtain ⟨U, hU⟩ : ∃ U, unD (atC cs i) = U := ⟨_, rfl⟩
      obtain ⟨D, hD⟩ : ∃ D, dayC (atC cs i) n = D := ⟨_, rfl⟩
      rw [hF] at c1 hOn
      rw [hU] at c2 hOn
      rw [hD] at hOn Hc
      have HS0 : Hid (AcS w cs lo hi (some ⟨b, o, none⟩) l s b o k i x1 x2 F U wr.drew) :=
        AcS.keep ⟨⟨c0, c1, c2, c3⟩, HI.out.sh, hb, HI.out⟩ (Below.refl _ _).drew
      have hc : Hid (∀ W, AcS w cs lo hi (some ⟨b, o, none⟩) l s b o k i x1 x2 F U W → Calls Tryz.prog 93 #[.agg #[.int .i64 (s 0), .int .i64 (s 1), .int .i64 (s 2), .int .i64 (s 3), .int .i64 (s 4), .int .i64 (s 5), .int .i64 (s 6), .int .i64 (s 7), .int .i64 (s 8), .int .i64 (s 9)], .pointer (some ⟨x1, 0, none⟩), .pointer (some ⟨x2, 0, none⟩)] W fun e w' => e = .returned (.bool D) ∧ AcS w cs lo hi (some ⟨b, o, none⟩) l s b o k i x1 x2 F U w') := fun W hS =>
        (Hc.out W hS.2.2.2.liv).mono fun e w' ⟨he, hb⟩ => ⟨he, hS.keep hb⟩
      obtain ⟨M, hMe⟩ : ∃ M, parM cs n k = M := ⟨_, rfl⟩
      have HM := hid hMe
      rw [hMe] at hM hY hN ⊢
      have hor := bits_or hM (pow_lt h64)
      have Hor := hid hor
      have H64 := hid h64
      have hltI : (k : Int) < l.length := by omega
      clear hF hU hD c0 c1 c2 c3 hb hix hcall Hc hMe hor
      by_cases h1 : F ≤ n
      rotate_left
      · have d1 : decide (F ≤ n) = false := decide_eq_false h1
        go_upto_region 7 with fail
        refine wp_region_held_drew (S := fun w' => AcS w cs lo hi (some ⟨b, o, none⟩) l s b o k i x1 x2 F U w') (by kernel_rfl) HS0.out (fun hHeld => ?_)
        refine wpAnyH_take (i := 0) (v := ?_) rfl (by kernel_rfl) (by kernel_rfl) (by kernel_rfl) (fun _ _ _ h => h) (Or.inl ⟨by rfl, ?_⟩) (by assumption) ?_
        rotate_left
        · intro w hSw; go_simp; (try with_reducible rfl)
        (try simp only [Act.put, List.getElem_toArray, List.getElem_cons_zero, List.setIfInBounds_toArray, List.set_cons_zero, List.set_cons_succ])
        refine wpAnyH_take (i := 1) (v := ?_) rfl (by kernel_rfl) (by kernel_rfl) (by kernel_rfl) (fun _ _ _ h => h) (Or.inl ⟨by rfl, ?_⟩) (by assumption) ?_
        rotate_left
        · intro w hSw; go_simp; (try with_reducible rfl)
        (try simp only [Act.put, List.getElem_toArray, List.getElem_cons_succ, List.getElem_cons_zero, List.setIfInBounds_toArray, List.set_cons_zero, List.set_cons_succ])
        refine wpAnyH_take (i := 2) (v := ?_) rfl (by kernel_rfl) (by kernel_rfl) (by kernel_rfl) (fun _ _ _ h => h) (Or.inl ⟨by rfl, ?_⟩) (by assumption) ?_
        rotate_left
        · intro w hSw; go_simp; (try with_reducible rfl)
        (try simp only [Act.put, List.getElem_toArray, List.getElem_cons_succ, List.getElem_cons_zero, List.setIfInBounds_toArray, List.set_cons_zero, List.set_cons_succ])
        refine wpAnyH_take (i := 3) (v := ?_) rfl (by kernel_rfl) (by kernel_rfl) (by kernel_rfl) (fun _ _ _ h => h) (Or.inl ⟨by rfl, ?_⟩) (by assumption) ?_
        rotate_left
        · intro w hSw; go_simp; (try with_reducible rfl)
        (try simp only [Act.put, List.getElem_toArray, List.getElem_cons_succ, List.getElem_cons_zero, List.setIfInBounds_toArray, List.set_cons_zero, List.set_cons_succ])
        refine wpAnyH_take (i := 4) (v := ?_) rfl (by kernel_rfl) (by kernel_rfl) (by kernel_rfl) (fun _ _ _ h => h) (Or.inl ⟨by rfl, ?_⟩) (by assumption) ?_
        rotate_left
        · intro w hSw; go_simp; (try with_reducible rfl)
        (try simp only [Act.put, List.getElem_toArray, List.getElem_cons_succ, List.getElem_cons_zero, List.setIfInBounds_toArray, List.set_cons_zero, List.set_cons_succ])
        refine wpAnyH_take (i := 5) (v := ?_) rfl (by kernel_rfl) (by kernel_rfl) (by kernel_rfl) (fun _ _ _ h => h) (Or.inl ⟨by rfl, ?_⟩) (by assumption) ?_
        rotate_left
        · intro w hSw; go_simp; (try with_reducible rfl)
        (try simp only [Act.put, List.getElem_toArray, List.getElem_cons_succ, List.getElem_cons_zero, List.setIfInBounds_toArray, List.set_cons_zero, List.set_cons_succ])
        refine wpAnyH_take (i := 6) (v := ?_) rfl (by kernel_rfl) (by kernel_rfl) (by kernel_rfl) (fun _ _ _ h => h) (Or.inl ⟨by rfl, ?_⟩) (by assumption) ?_
        rotate_left
        · intro w hSw; go_simp; (try with_reducible rfl)
        (try simp only [Act.put, List.getElem_toArray, List.getElem_cons_succ, List.getElem_cons_zero, List.setIfInBounds_toArray, List.set_cons_zero, List.set_cons_succ])
        refine wpAnyH_take (i := 7) (v := undef) rfl (by kernel_rfl) (by kernel_rfl) (by kernel_rfl) (fun _ _ _ h => h) (Or.inr ⟨by rfl, rfl⟩) (by assumption) ?_
        (try simp only [Act.put, List.getElem_toArray, List.getElem_cons_succ, List.getElem_cons_zero, List.setIfInBounds_toArray, List.set_cons_zero, List.set_cons_succ])
        refine wpAnyH_take (i := 8) (v := undef) rfl (by kernel_rfl) (by kernel_rfl) (by kernel_rfl) (fun _ _ _ h => h) (Or.inr ⟨by rfl, rfl⟩) (by assumption) ?_
        (try simp only [Act.put, List.getElem_toArray, List.getElem_cons_succ, List.getElem_cons_zero, List.setIfInBounds_toArray, List.set_cons_zero, List.set_cons_succ])
        refine wpAnyH_take (i := 9) (v := undef) rfl (by kernel_rfl) (by kernel_rfl) (by kernel_rfl) (fun _ _ _ h => h) (Or.inr ⟨by rfl, rfl⟩) (by assumption) ?_
        (try simp only [Act.put, List.getElem_toArray, List.getElem_cons_succ, List.getElem_cons_zero, List.setIfInBounds_toArray, List.set_cons_zero, List.set_cons_succ])
        refine wpAnyH_take (i := 10) (v := undef) rfl (by kernel_rfl) (by kernel_rfl) (by kernel_rfl) (fun _ _ _ h => h) (Or.inr ⟨by rfl, rfl⟩) (by assumption) ?_
        (try simp only [Act.put, List.getElem_toArray, List.getElem_cons_succ, List.getElem_cons_zero, List.setIfInBounds_toArray, List.set_cons_zero, List.set_cons_succ])
        refine wpAnyH_take (i := 11) (v := undef) rfl (by kernel_rfl) (by kernel_rfl) (by kernel_rfl) (fun _ _ _ h => h) (Or.inr ⟨by rfl, rfl⟩) (by assumption) ?_
        (try simp only [Act.put, List.getElem_toArray, List.getElem_cons_succ, List.getElem_cons_zero, List.setIfInBounds_toArray, List.set_cons_zero, List.set_cons_succ])
        refine wpAnyH_take (i := 12) (v := undef) rfl (by kernel_rfl) (by kernel_rfl) (by kernel_rfl) (fun _ _ _ h => h) (Or.inr ⟨by rfl, rfl⟩) (by assumption) ?_
        (try simp only [Act.put, List.getElem_toArray, List.getElem_cons_succ, List.getElem_cons_zero, List.setIfInBounds_toArray, List.set_cons_zero, List.set_cons_succ])
        refine wpAnyH_take (i := 13) (v := ?_) rfl (by kernel_rfl) (by kernel_rfl) (by kernel_rfl) (fun _ _ _ h => h) (Or.inl ⟨by rfl, ?_⟩) (by assumption) ?_
        rotate_left
        · intro w hSw; go_simp; (try with_reducible rfl)
        (try simp only [Act.put, List.getElem_toArray, List.getElem_cons_succ, List.getElem_cons_zero, List.setIfInBounds_toArray, List.set_cons_zero, List.set_cons_succ])
        refine wpAnyH_take (i := 14) (v := ?_) rfl (by kernel_rfl) (by kernel_rfl) (by kernel_rfl) (fun _ _ _ h => h) (Or.inl ⟨by rfl, ?_⟩) (by assumption) ?_
        rotate_left
        · intro w hSw; go_simp; (try with_reducible rfl)
        (try simp only [Act.put, List.getElem_toArray, List.getElem_cons_succ, List.getElem_cons_zero, List.setIfInBounds_toArray, List.set_cons_zero, List.set_cons_succ])
        refine wpAnyH_take (i := 15) (v := undef) rfl (by kernel_rfl) (by kernel_rfl) (by kernel_rfl) (fun _ _ _ h => h) (Or.inr ⟨by rfl, rfl⟩) (by assumption) ?_
        (try simp only [Act.put, List.getElem_toArray, List.getElem_cons_succ, List.getElem_cons_zero, List.setIfInBounds_toArray, List.set_cons_zero, List.set_cons_succ])
        refine wpAnyH_take (i := 16) (v := undef) rfl (by kernel_rfl) (by kernel_rfl) (by kernel_rfl) (fun _ _ _ h => h) (Or.inr ⟨by rfl, rfl⟩) (by assumption) ?_
        (try simp only [Act.put, List.getElem_toArray, List.getElem_cons_succ, List.getElem_cons_zero, List.setIfInBounds_toArray, List.set_cons_zero, List.set_cons_succ])
        refine wpAnyH_take (i := 17) (v := undef) rfl (by kernel_rfl) (by kernel_rfl) (by kernel_rfl) (fun _ _ _ h => h) (Or.inr ⟨by rfl, rfl⟩) (by assumption) ?_
        (try simp only [Act.put, List.getElem_toArray, List.getElem_cons_succ, List.getElem_cons_zero, List.setIfInBounds_toArray, List.set_cons_zero, List.set_cons_succ])
        refine wpAnyH_take (i := 18) (v := undef) rfl (by kernel_rfl) (by kernel_rfl) (by kernel_rfl) (fun _ _ _ h => h) (Or.inr ⟨by rfl, rfl⟩) (by assumption) ?_
        (try simp only [Act.put, List.getElem_toArray, List.getElem_cons_succ, List.getElem_cons_zero, List.setIfInBounds_toArray, List.set_cons_zero, List.set_cons_succ])
        refine wpAnyH_take (i := 19) (v := undef) rfl (by kernel_rfl) (by kernel_rfl) (by kernel_rfl) (fun _ _ _ h => h) (Or.inr ⟨by rfl, rfl⟩) (by assumption) ?_
        (try simp only [Act.put, List.getElem_toArray, List.getElem_cons_succ, List.getElem_cons_zero, List.setIfInBounds_toArray, List.set_cons_zero, List.set_cons_succ])
        refine wpAnyH_take (i := 20) (v := undef) rfl (by kernel_rfl) (by kernel_rfl) (by kernel_rfl) (fun _ _ _ h => h) (Or.inr ⟨by rfl, rfl⟩) (by assumption) ?_
        (try simp only [Act.put, List.getElem_toArray, List.getElem_cons_succ, List.getElem_cons_zero, List.setIfInBounds_toArray, List.set_cons_zero, List.set_cons_succ])
        refine wpAnyH_take (i := 21) (v := ?_) rfl (by kernel_rfl) (by kernel_rfl) (by kernel_rfl) (fun _ _ _ h => h) (Or.inl ⟨by rfl, ?_⟩) (by assumption) ?_
        rotate_left
        · intro w hSw; go_simp; (try with_reducible rfl)
        (try simp only [Act.put, List.getElem_toArray, List.getElem_cons_succ, List.getElem_cons_zero, List.setIfInBounds_toArray, List.set_cons_zero, List.set_cons_succ])
        refine wpAnyH_done (by kernel_rfl) ?_ _
        have HV := hid ‹AcS w cs lo hi (some ⟨b, o, none⟩) l s b o k i x1 x2 F U _›
        have hn : Hid (parM cs n (k + 1) = M) := by show _ = _; exact hN.out (by rw [hOn.out, d1, Bool.false_and])
        clear d1
        go_wp2
        exact ⟨⟨k + 1, by go_num, by omega, by rw [hn.out], HV.out.2.2.2⟩, by simp [intOf]; omega⟩
      by_cases h2 : n ≤ U
      rotate_left
      · have d1 : decide (F ≤ n) = true := decide_eq_true h1
        have d2 : decide (n ≤ U) = false := decide_eq_false h2
        go_upto_region 7 with fail
        refine wp_region_held_drew (S := fun w' => AcS w cs lo hi (some ⟨b, o, none⟩) l s b o k i x1 x2 F U w') (by kernel_rfl) HS0.out (fun hHeld => ?_)
        refine wpAnyH_take (i := 0) (v := ?_) rfl (by kernel_rfl) (by kernel_rfl) (by kernel_rfl) (fun _ _ _ h => h) (Or.inl ⟨by rfl, ?_⟩) (by assumption) ?_
        rotate_left
        · intro w hSw; go_simp; (try with_reducible rfl)
        (try simp only [Act.put, List.getElem_toArray, List.getElem_cons_zero, List.setIfInBounds_toArray, List.set_cons_zero, List.set_cons_succ])
        refine wpAnyH_take (i := 1) (v := ?_) rfl (by kernel_rfl) (by kernel_rfl) (by kernel_rfl) (fun _ _ _ h => h) (Or.inl ⟨by rfl, ?_⟩) (by assumption) ?_
        rotate_left
        · intro w hSw; go_simp; (try with_reducible rfl)
        (try simp only [Act.put, List.getElem_toArray, List.getElem_cons_succ, List.getElem_cons_zero, List.setIfInBounds_toArray, List.set_cons_zero, List.set_cons_succ])
        refine wpAnyH_take (i := 2) (v := ?_) rfl (by kernel_rfl) (by kernel_rfl) (by kernel_rfl) (fun _ _ _ h => h) (Or.inl ⟨by rfl, ?_⟩) (by assumption) ?_
        rotate_left
        · intro w hSw; go_simp; (try with_reducible rfl)
        (try simp only [Act.put, List.getElem_toArray, List.getElem_cons_succ, List.getElem_cons_zero, List.setIfInBounds_toArray, List.set_cons_zero, List.set_cons_succ])
        refine wpAnyH_take (i := 3) (v := ?_) rfl (by kernel_rfl) (by kernel_rfl) (by kernel_rfl) (fun _ _ _ h => h) (Or.inl ⟨by rfl, ?_⟩) (by assumption) ?_
        rotate_left
        · intro w hSw; go_simp; (try with_reducible rfl)
        (try simp only [Act.put, List.getElem_toArray, List.getElem_cons_succ, List.getElem_cons_zero, List.setIfInBounds_toArray, List.set_cons_zero, List.set_cons_succ])
        refine wpAnyH_take (i := 4) (v := ?_) rfl (by kernel_rfl) (by kernel_rfl) (by kernel_rfl) (fun _ _ _ h => h) (Or.inl ⟨by rfl, ?_⟩) (by assumption) ?_
        rotate_left
        · intro w hSw; go_simp; (try with_reducible rfl)
        (try simp only [Act.put, List.getElem_toArray, List.getElem_cons_succ, List.getElem_cons_zero, List.setIfInBounds_toArray, List.set_cons_zero, List.set_cons_succ])
        refine wpAnyH_take (i := 5) (v := ?_) rfl (by kernel_rfl) (by kernel_rfl) (by kernel_rfl) (fun _ _ _ h => h) (Or.inl ⟨by rfl, ?_⟩) (by assumption) ?_
        rotate_left
        · intro w hSw; go_simp; (try with_reducible rfl)
        (try simp only [Act.put, List.getElem_toArray, List.getElem_cons_succ, List.getElem_cons_zero, List.setIfInBounds_toArray, List.set_cons_zero, List.set_cons_succ])
        refine wpAnyH_take (i := 6) (v := ?_) rfl (by kernel_rfl) (by kernel_rfl) (by kernel_rfl) (fun _ _ _ h => h) (Or.inl ⟨by rfl, ?_⟩) (by assumption) ?_
        rotate_left
        · intro w hSw; go_simp; (try with_reducible rfl)
        (try simp only [Act.put, List.getElem_toArray, List.getElem_cons_succ, List.getElem_cons_zero, List.setIfInBounds_toArray, List.set_cons_zero, List.set_cons_succ])
        refine wpAnyH_take (i := 7) (v := ?_) rfl (by kernel_rfl) (by kernel_rfl) (by kernel_rfl) (fun _ _ _ h => h) (Or.inl ⟨by rfl, ?_⟩) (by assumption) ?_
        rotate_left
        · intro w hSw; go_simp; (try with_reducible rfl)
        (try simp only [Act.put, List.getElem_toArray, List.getElem_cons_succ, List.getElem_cons_zero, List.setIfInBounds_toArray, List.set_cons_zero, List.set_cons_succ])
        refine wpAnyH_take (i := 8) (v := ?_) rfl (by kernel_rfl) (by kernel_rfl) (by kernel_rfl) (fun _ _ _ h => h) (Or.inl ⟨by rfl, ?_⟩) (by assumption) ?_
        rotate_left
        · intro w hSw; go_simp; (try with_reducible rfl)
        (try simp only [Act.put, List.getElem_toArray, List.getElem_cons_succ, List.getElem_cons_zero, List.setIfInBounds_toArray, List.set_cons_zero, List.set_cons_succ])
        refine wpAnyH_take (i := 9) (v := ?_) rfl (by kernel_rfl) (by kernel_rfl) (by kernel_rfl) (fun _ _ _ h => h) (Or.inl ⟨by rfl, ?_⟩) (by assumption) ?_
        rotate_left
        · intro w hSw; go_simp; (try with_reducible rfl)
        (try simp only [Act.put, List.getElem_toArray, List.getElem_cons_succ, List.getElem_cons_zero, List.setIfInBounds_toArray, List.set_cons_zero, List.set_cons_succ])
        refine wpAnyH_take (i := 10) (v := ?_) rfl (by kernel_rfl) (by kernel_rfl) (by kernel_rfl) (fun _ _ _ h => h) (Or.inl ⟨by rfl, ?_⟩) (by assumption) ?_
        rotate_left
        · intro w hSw; go_simp; (try with_reducible rfl)
        (try simp only [Act.put, List.getElem_toArray, List.getElem_cons_succ, List.getElem_cons_zero, List.setIfInBounds_toArray, List.set_cons_zero, List.set_cons_succ])
        refine wpAnyH_take (i := 11) (v := ?_) rfl (by kernel_rfl) (by kernel_rfl) (by kernel_rfl) (fun _ _ _ h => h) (Or.inl ⟨by rfl, ?_⟩) (by assumption) ?_
        rotate_left
        · intro w hSw; go_simp; (try with_reducible rfl)
        (try simp only [Act.put, List.getElem_toArray, List.getElem_cons_succ, List.getElem_cons_zero, List.setIfInBounds_toArray, List.set_cons_zero, List.set_cons_succ])
        refine wpAnyH_take (i := 12) (v := ?_) rfl (by kernel_rfl) (by kernel_rfl) (by kernel_rfl) (fun _ _ _ h => h) (Or.inl ⟨by rfl, ?_⟩) (by assumption) ?_
        rotate_left
        · intro w hSw; go_simp; (try with_reducible rfl)
        (try simp only [Act.put, List.getElem_toArray, List.getElem_cons_succ, List.getElem_cons_zero, List.setIfInBounds_toArray, List.set_cons_zero, List.set_cons_succ])
        refine wpAnyH_take (i := 13) (v := ?_) rfl (by kernel_rfl) (by kernel_rfl) (by kernel_rfl) (fun _ _ _ h => h) (Or.inl ⟨by rfl, ?_⟩) (by assumption) ?_
        rotate_left
        · intro w hSw; go_simp; (try with_reducible rfl)
        (try simp only [Act.put, List.getElem_toArray, List.getElem_cons_succ, List.getElem_cons_zero, List.setIfInBounds_toArray, List.set_cons_zero, List.set_cons_succ])
        refine wpAnyH_take (i := 14) (v := ?_) rfl (by kernel_rfl) (by kernel_rfl) (by kernel_rfl) (fun _ _ _ h => h) (Or.inl ⟨by rfl, ?_⟩) (by assumption) ?_
        rotate_left
        · intro w hSw; go_simp; (try with_reducible rfl)
        (try simp only [Act.put, List.getElem_toArray, List.getElem_cons_succ, List.getElem_cons_zero, List.setIfInBounds_toArray, List.set_cons_zero, List.set_cons_succ])
        refine wpAnyH_take (i := 15) (v := undef) rfl (by kernel_rfl) (by kernel_rfl) (by kernel_rfl) (fun _ _ _ h => h) (Or.inr ⟨by rfl, rfl⟩) (by assumption) ?_
        (try simp only [Act.put, List.getElem_toArray, List.getElem_cons_succ, List.getElem_cons_zero, List.setIfInBounds_toArray, List.set_cons_zero, List.set_cons_succ])
        refine wpAnyH_take (i := 16) (v := undef) rfl (by kernel_rfl) (by kernel_rfl) (by kernel_rfl) (fun _ _ _ h => h) (Or.inr ⟨by rfl, rfl⟩) (by assumption) ?_
        (try simp only [Act.put, List.getElem_toArray, List.getElem_cons_succ, List.getElem_cons_zero, List.setIfInBounds_toArray, List.set_cons_zero, List.set_cons_succ])
        refine wpAnyH_take (i := 17) (v := undef) rfl (by kernel_rfl) (by kernel_rfl) (by kernel_rfl) (fun _ _ _ h => h) (Or.inr ⟨by rfl, rfl⟩) (by assumption) ?_
        (try simp only [Act.put, List.getElem_toArray, List.getElem_cons_succ, List.getElem_cons_zero, List.setIfInBounds_toArray, List.set_cons_zero, List.set_cons_succ])
        refine wpAnyH_take (i := 18) (v := undef) rfl (by kernel_rfl) (by kernel_rfl) (by kernel_rfl) (fun _ _ _ h => h) (Or.inr ⟨by rfl, rfl⟩) (by assumption) ?_
        (try simp only [Act.put, List.getElem_toArray, List.getElem_cons_succ, List.getElem_cons_zero, List.setIfInBounds_toArray, List.set_cons_zero, List.set_cons_succ])
        refine wpAnyH_take (i := 19) (v := undef) rfl (by kernel_rfl) (by kernel_rfl) (by kernel_rfl) (fun _ _ _ h => h) (Or.inr ⟨by rfl, rfl⟩) (by assumption) ?_
        (try simp only [Act.put, List.getElem_toArray, List.getElem_cons_succ, List.getElem_cons_zero, List.setIfInBounds_toArray, List.set_cons_zero, List.set_cons_succ])
        refine wpAnyH_take (i := 20) (v := undef) rfl (by kernel_rfl) (by kernel_rfl) (by kernel_rfl) (fun _ _ _ h => h) (Or.inr ⟨by rfl, rfl⟩) (by assumption) ?_
        (try simp only [Act.put, List.getElem_toArray, List.getElem_cons_succ, List.getElem_cons_zero, List.setIfInBounds_toArray, List.set_cons_zero, List.set_cons_succ])
        refine wpAnyH_take (i := 21) (v := ?_) rfl (by kernel_rfl) (by kernel_rfl) (by kernel_rfl) (fun _ _ _ h => h) (Or.inl ⟨by rfl, ?_⟩) (by assumption) ?_
        rotate_left
        · intro w hSw; go_simp; (try with_reducible rfl)
        (try simp only [Act.put, List.getElem_toArray, List.getElem_cons_succ, List.getElem_cons_zero, List.setIfInBounds_toArray, List.set_cons_zero, List.set_cons_succ])
        refine wpAnyH_done (by kernel_rfl) ?_ _
        have HV := hid ‹AcS w cs lo hi (some ⟨b, o, none⟩) l s b o k i x1 x2 F U _›
        have hn : Hid (parM cs n (k + 1) = M) := by show _ = _; exact hN.out (by rw [hOn.out, d1, d2, Bool.false_and, Bool.and_false])
        clear d1 d2
        go_wp2
        exact ⟨⟨k + 1, by go_num, by omega, by rw [hn.out], HV.out.2.2.2⟩, by simp [intOf]; omega⟩
      have d1 : decide (F ≤ n) = true := decide_eq_true h1
      have d2 : decide (n ≤ U) = true := decide_eq_true h2
      cases D
      · go_upto_region 7 with fail
        refine wp_region_held_drew (S := fun w' => AcS w cs lo hi (some ⟨b, o, none⟩) l s b o k i x1 x2 F U w') (by kernel_rfl) HS0.out (fun hHeld => ?_)
        refine wpAnyH_take (i := 0) (v := ?_) rfl (by kernel_rfl) (by kernel_rfl) (by kernel_rfl) (fun _ _ _ h => h) (Or.inl ⟨by rfl, ?_⟩) (by assumption) ?_
        rotate_left
        · intro w hSw; go_simp; (try with_reducible rfl)
        (try simp only [Act.put, List.getElem_toArray, List.getElem_cons_zero, List.setIfInBounds_toArray, List.set_cons_zero, List.set_cons_succ])
        refine wpAnyH_take (i := 1) (v := ?_) rfl (by kernel_rfl) (by kernel_rfl) (by kernel_rfl) (fun _ _ _ h => h) (Or.inl ⟨by rfl, ?_⟩) (by assumption) ?_
        rotate_left
        · intro w hSw; go_simp; (try with_reducible rfl)
        (try simp only [Act.put, List.getElem_toArray, List.getElem_cons_succ, List.getElem_cons_zero, List.setIfInBounds_toArray, List.set_cons_zero, List.set_cons_succ])
        refine wpAnyH_take (i := 2) (v := ?_) rfl (by kernel_rfl) (by kernel_rfl) (by kernel_rfl) (fun _ _ _ h => h) (Or.inl ⟨by rfl, ?_⟩) (by assumption) ?_
        rotate_left
        · intro w hSw; go_simp; (try with_reducible rfl)
        (try simp only [Act.put, List.getElem_toArray, List.getElem_cons_succ, List.getElem_cons_zero, List.setIfInBounds_toArray, List.set_cons_zero, List.set_cons_succ])
        refine wpAnyH_take (i := 3) (v := ?_) rfl (by kernel_rfl) (by kernel_rfl) (by kernel_rfl) (fun _ _ _ h => h) (Or.inl ⟨by rfl, ?_⟩) (by assumption) ?_
        rotate_left
        · intro w hSw; go_simp; (try with_reducible rfl)
        (try simp only [Act.put, List.getElem_toArray, List.getElem_cons_succ, List.getElem_cons_zero, List.setIfInBounds_toArray, List.set_cons_zero, List.set_cons_succ])
        refine wpAnyH_take (i := 4) (v := ?_) rfl (by kernel_rfl) (by kernel_rfl) (by kernel_rfl) (fun _ _ _ h => h) (Or.inl ⟨by rfl, ?_⟩) (by assumption) ?_
        rotate_left
        · intro w hSw; go_simp; (try with_reducible rfl)
        (try simp only [Act.put, List.getElem_toArray, List.getElem_cons_succ, List.getElem_cons_zero, List.setIfInBounds_toArray, List.set_cons_zero, List.set_cons_succ])
        refine wpAnyH_take (i := 5) (v := ?_) rfl (by kernel_rfl) (by kernel_rfl) (by kernel_rfl) (fun _ _ _ h => h) (Or.inl ⟨by rfl, ?_⟩) (by assumption) ?_
        rotate_left
        · intro w hSw; go_simp; (try with_reducible rfl)
        (try simp only [Act.put, List.getElem_toArray, List.getElem_cons_succ, List.getElem_cons_zero, List.setIfInBounds_toArray, List.set_cons_zero, List.set_cons_succ])
        refine wpAnyH_take (i := 6) (v := ?_) rfl (by kernel_rfl) (by kernel_rfl) (by kernel_rfl) (fun _ _ _ h => h) (Or.inl ⟨by rfl, ?_⟩) (by assumption) ?_
        rotate_left
        · intro w hSw; go_simp; (try with_reducible rfl)
        (try simp only [Act.put, List.getElem_toArray, List.getElem_cons_succ, List.getElem_cons_zero, List.setIfInBounds_toArray, List.set_cons_zero, List.set_cons_succ])
        refine wpAnyH_take (i := 7) (v := ?_) rfl (by kernel_rfl) (by kernel_rfl) (by kernel_rfl) (fun _ _ _ h => h) (Or.inl ⟨by rfl, ?_⟩) (by assumption) ?_
        rotate_left
        · intro w hSw; go_simp; (try with_reducible rfl)
        (try simp only [Act.put, List.getElem_toArray, List.getElem_cons_succ, List.getElem_cons_zero, List.setIfInBounds_toArray, List.set_cons_zero, List.set_cons_succ])
        refine wpAnyH_take (i := 8) (v := ?_) rfl (by kernel_rfl) (by kernel_rfl) (by kernel_rfl) (fun _ _ _ h => h) (Or.inl ⟨by rfl, ?_⟩) (by assumption) ?_
        rotate_left
        · intro w hSw; go_simp; (try with_reducible rfl)
        (try simp only [Act.put, List.getElem_toArray, List.getElem_cons_succ, List.getElem_cons_zero, List.setIfInBounds_toArray, List.set_cons_zero, List.set_cons_succ])
        refine wpAnyH_take (i := 9) (v := ?_) rfl (by kernel_rfl) (by kernel_rfl) (by kernel_rfl) (fun _ _ _ h => h) (Or.inl ⟨by rfl, ?_⟩) (by assumption) ?_
        rotate_left
        · intro w hSw; go_simp; (try with_reducible rfl)
        (try simp only [Act.put, List.getElem_toArray, List.getElem_cons_succ, List.getElem_cons_zero, List.setIfInBounds_toArray, List.set_cons_zero, List.set_cons_succ])
        refine wpAnyH_take (i := 10) (v := ?_) rfl (by kernel_rfl) (by kernel_rfl) (by kernel_rfl) (fun _ _ _ h => h) (Or.inl ⟨by rfl, ?_⟩) (by assumption) ?_
        rotate_left
        · intro w hSw; go_simp; (try with_reducible rfl)
        (try simp only [Act.put, List.getElem_toArray, List.getElem_cons_succ, List.getElem_cons_zero, List.setIfInBounds_toArray, List.set_cons_zero, List.set_cons_succ])
        refine wpAnyH_take (i := 11) (v := ?_) rfl (by kernel_rfl) (by kernel_rfl) (by kernel_rfl) (fun _ _ _ h => h) (Or.inl ⟨by rfl, ?_⟩) (by assumption) ?_
        rotate_left
        · intro w hSw; go_simp; (try with_reducible rfl)
        (try simp only [Act.put, List.getElem_toArray, List.getElem_cons_succ, List.getElem_cons_zero, List.setIfInBounds_toArray, List.set_cons_zero, List.set_cons_succ])
        refine wpAnyH_take (i := 12) (v := ?_) rfl (by kernel_rfl) (by kernel_rfl) (by kernel_rfl) (fun _ _ _ h => h) (Or.inl ⟨by rfl, ?_⟩) (by assumption) ?_
        rotate_left
        · intro w hSw; go_simp; (try with_reducible rfl)
        (try simp only [Act.put, List.getElem_toArray, List.getElem_cons_succ, List.getElem_cons_zero, List.setIfInBounds_toArray, List.set_cons_zero, List.set_cons_succ])
        refine wpAnyH_take (i := 13) (v := ?_) rfl (by kernel_rfl) (by kernel_rfl) (by kernel_rfl) (fun _ _ _ h => h) (Or.inl ⟨by rfl, ?_⟩) (by assumption) ?_
        rotate_left
        · intro w hSw; go_simp; (try with_reducible rfl)
        (try simp only [Act.put, List.getElem_toArray, List.getElem_cons_succ, List.getElem_cons_zero, List.setIfInBounds_toArray, List.set_cons_zero, List.set_cons_succ])
        refine wpAnyH_take (i := 14) (v := ?_) rfl (by kernel_rfl) (by kernel_rfl) (by kernel_rfl) (fun _ _ _ h => h) (Or.inl ⟨by rfl, ?_⟩) (by assumption) ?_
        rotate_left
        · intro w hSw; go_simp; (try with_reducible rfl)
        (try simp only [Act.put, List.getElem_toArray, List.getElem_cons_succ, List.getElem_cons_zero, List.setIfInBounds_toArray, List.set_cons_zero, List.set_cons_succ])
        refine wpAnyH_take (i := 15) (v := ?_) rfl (by kernel_rfl) (by kernel_rfl) (by kernel_rfl) (fun _ _ _ h => h) (Or.inl ⟨by rfl, ?_⟩) (by assumption) ?_
        rotate_left
        · intro w hSw; go_simp; (try with_reducible rfl)
        (try simp only [Act.put, List.getElem_toArray, List.getElem_cons_succ, List.getElem_cons_zero, List.setIfInBounds_toArray, List.set_cons_zero, List.set_cons_succ])
        refine wpAnyH_take (i := 16) (v := ?_) rfl (by kernel_rfl) (by kernel_rfl) (by kernel_rfl) (fun _ _ _ h => h) (Or.inl ⟨by rfl, ?_⟩) (by assumption) ?_
        rotate_left
        · intro w hSw; go_simp; (try with_reducible rfl)
        (try simp only [Act.put, List.getElem_toArray, List.getElem_cons_succ, List.getElem_cons_zero, List.setIfInBounds_toArray, List.set_cons_zero, List.set_cons_succ])
        refine wpAnyH_take (i := 17) (v := ?_) rfl (by kernel_rfl) (by kernel_rfl) (by kernel_rfl) (fun _ _ _ h => h) (Or.inl ⟨by rfl, ?_⟩) (by assumption) ?_
        rotate_left
        · intro w hSw; go_simp; (try with_reducible rfl)
        (try simp only [Act.put, List.getElem_toArray, List.getElem_cons_succ, List.getElem_cons_zero, List.setIfInBounds_toArray, List.set_cons_zero, List.set_cons_succ])
        refine wpAnyH_take (i := 18) (v := ?_) rfl (by kernel_rfl) (by kernel_rfl) (by kernel_rfl) (fun _ _ _ h => h) (Or.inl ⟨by rfl, ?_⟩) (by assumption) ?_
        rotate_left
        · intro w hSw; go_simp; (try with_reducible rfl)
        (try simp only [Act.put, List.getElem_toArray, List.getElem_cons_succ, List.getElem_cons_zero, List.setIfInBounds_toArray, List.set_cons_zero, List.set_cons_succ])
        refine wpAnyH_take (i := 19) (v := ?_) rfl (by kernel_rfl) (by kernel_rfl) (by kernel_rfl) (fun _ _ _ h => h) (Or.inl ⟨by rfl, ?_⟩) (by assumption) ?_
        rotate_left
        · intro w hSw; go_simp; (try with_reducible rfl)
        (try simp only [Act.put, List.getElem_toArray, List.getElem_cons_succ, List.getElem_cons_zero, List.setIfInBounds_toArray, List.set_cons_zero, List.set_cons_succ])
        refine wpAnyH_ready (rs := [20]) (by kernel_rfl) (by simp) ?_
        refine AllReadyH.cons rfl (fun K hK => ?_) AllReadyH.nil
        go_simp
        refine (hc.out _ (by assumption)).mono ?_; rintro e w1 ⟨rfl, hS1⟩
        (try go_wp2_with fail)
        refine hK.out _ _ (by assumption) (fun hHeld => ?_)
        clear hK K
        (try simp only [Act.put, List.getElem_toArray, List.getElem_cons_succ, List.getElem_cons_zero, List.setIfInBounds_toArray, List.set_cons_zero, List.set_cons_succ])
        refine wpAnyH_take (i := 21) (v := ?_) rfl (by kernel_rfl) (by kernel_rfl) (by kernel_rfl) (fun _ _ _ h => h) (Or.inl ⟨by rfl, ?_⟩) (by assumption) ?_
        rotate_left
        · intro w hSw; go_simp; (try with_reducible rfl)
        (try simp only [Act.put, List.getElem_toArray, List.getElem_cons_succ, List.getElem_cons_zero, List.setIfInBounds_toArray, List.set_cons_zero, List.set_cons_succ])
        refine wpAnyH_done (by kernel_rfl) ?_ _
        have HV := hid ‹AcS w cs lo hi (some ⟨b, o, none⟩) l s b o k i x1 x2 F U _›
        have hn : Hid (parM cs n (k + 1) = M) := by show _ = _; exact hN.out (by rw [hOn.out, d1, d2, Bool.and_false, Bool.and_false])
        clear d1 d2
        go_wp2
        exact ⟨⟨k + 1, by go_num, by omega, by rw [hn.out], HV.out.2.2.2⟩, by simp [intOf]; omega⟩
      · go_upto_region 7 with fail
        refine wp_region_held_drew (S := fun w' => AcS w cs lo hi (some ⟨b, o, none⟩) l s b o k i x1 x2 F U w') (by kernel_rfl) HS0.out (fun hHeld => ?_)
        refine wpAnyH_take (i := 0) (v := ?_) rfl (by kernel_rfl) (by kernel_rfl) (by kernel_rfl) (fun _ _ _ h => h) (Or.inl ⟨by rfl, ?_⟩) (by assumption) ?_
        rotate_left
        · intro w hSw; go_simp; (try with_reducible rfl)
        (try simp only [Act.put, List.getElem_toArray, List.getElem_cons_zero, List.setIfInBounds_toArray, List.set_cons_zero, List.set_cons_succ])
        refine wpAnyH_take (i := 1) (v := ?_) rfl (by kernel_rfl) (by kernel_rfl) (by kernel_rfl) (fun _ _ _ h => h) (Or.inl ⟨by rfl, ?_⟩) (by assumption) ?_
        rotate_left
        · intro w hSw; go_simp; (try with_reducible rfl)
        (try simp only [Act.put, List.getElem_toArray, List.getElem_cons_succ, List.getElem_cons_zero, List.setIfInBounds_toArray, List.set_cons_zero, List.set_cons_succ])
        refine wpAnyH_take (i := 2) (v := ?_) rfl (by kernel_rfl) (by kernel_rfl) (by kernel_rfl) (fun _ _ _ h => h) (Or.inl ⟨by rfl, ?_⟩) (by assumption) ?_
        rotate_left
        · intro w hSw; go_simp; (try with_reducible rfl)
        (try simp only [Act.put, List.getElem_toArray, List.getElem_cons_succ, List.getElem_cons_zero, List.setIfInBounds_toArray, List.set_cons_zero, List.set_cons_succ])
        refine wpAnyH_take (i := 3) (v := ?_) rfl (by kernel_rfl) (by kernel_rfl) (by kernel_rfl) (fun _ _ _ h => h) (Or.inl ⟨by rfl, ?_⟩) (by assumption) ?_
        rotate_left
        · intro w hSw; go_simp; (try with_reducible rfl)
        (try simp only [Act.put, List.getElem_toArray, List.getElem_cons_succ, List.getElem_cons_zero, List.setIfInBounds_toArray, List.set_cons_zero, List.set_cons_succ])
        refine wpAnyH_take (i := 4) (v := ?_) rfl (by kernel_rfl) (by kernel_rfl) (by kernel_rfl) (fun _ _ _ h => h) (Or.inl ⟨by rfl, ?_⟩) (by assumption) ?_
        rotate_left
        · intro w hSw; go_simp; (try with_reducible rfl)
        (try simp only [Act.put, List.getElem_toArray, List.getElem_cons_succ, List.getElem_cons_zero, List.setIfInBounds_toArray, List.set_cons_zero, List.set_cons_succ])
        refine wpAnyH_take (i := 5) (v := ?_) rfl (by kernel_rfl) (by kernel_rfl) (by kernel_rfl) (fun _ _ _ h => h) (Or.inl ⟨by rfl, ?_⟩) (by assumption) ?_
        rotate_left
        · intro w hSw; go_simp; (try with_reducible rfl)
        (try simp only [Act.put, List.getElem_toArray, List.getElem_cons_succ, List.getElem_cons_zero, List.setIfInBounds_toArray, List.set_cons_zero, List.set_cons_succ])
        refine wpAnyH_take (i := 6) (v := ?_) rfl (by kernel_rfl) (by kernel_rfl) (by kernel_rfl) (fun _ _ _ h => h) (Or.inl ⟨by rfl, ?_⟩) (by assumption) ?_
        rotate_left
        · intro w hSw; go_simp; (try with_reducible rfl)
        (try simp only [Act.put, List.getElem_toArray, List.getElem_cons_succ, List.getElem_cons_zero, List.setIfInBounds_toArray, List.set_cons_zero, List.set_cons_succ])
        refine wpAnyH_take (i := 7) (v := ?_) rfl (by kernel_rfl) (by kernel_rfl) (by kernel_rfl) (fun _ _ _ h => h) (Or.inl ⟨by rfl, ?_⟩) (by assumption) ?_
        rotate_left
        · intro w hSw; go_simp; (try with_reducible rfl)
        (try simp only [Act.put, List.getElem_toArray, List.getElem_cons_succ, List.getElem_cons_zero, List.setIfInBounds_toArray, List.set_cons_zero, List.set_cons_succ])
        refine wpAnyH_take (i := 8) (v := ?_) rfl (by kernel_rfl) (by kernel_rfl) (by kernel_rfl) (fun _ _ _ h => h) (Or.inl ⟨by rfl, ?_⟩) (by assumption) ?_
        rotate_left
        · intro w hSw; go_simp; (try with_reducible rfl)
        (try simp only [Act.put, List.getElem_toArray, List.getElem_cons_succ, List.getElem_cons_zero, List.setIfInBounds_toArray, List.set_cons_zero, List.set_cons_succ])
        refine wpAnyH_take (i := 9) (v := ?_) rfl (by kernel_rfl) (by kernel_rfl) (by kernel_rfl) (fun _ _ _ h => h) (Or.inl ⟨by rfl, ?_⟩) (by assumption) ?_
        rotate_left
        · intro w hSw; go_simp; (try with_reducible rfl)
        (try simp only [Act.put, List.getElem_toArray, List.getElem_cons_succ, List.getElem_cons_zero, List.setIfInBounds_toArray, List.set_cons_zero, List.set_cons_succ])
        refine wpAnyH_take (i := 10) (v := ?_) rfl (by kernel_rfl) (by kernel_rfl) (by kernel_rfl) (fun _ _ _ h => h) (Or.inl ⟨by rfl, ?_⟩) (by assumption) ?_
        rotate_left
        · intro w hSw; go_simp; (try with_reducible rfl)
        (try simp only [Act.put, List.getElem_toArray, List.getElem_cons_succ, List.getElem_cons_zero, List.setIfInBounds_toArray, List.set_cons_zero, List.set_cons_succ])
        refine wpAnyH_take (i := 11) (v := ?_) rfl (by kernel_rfl) (by kernel_rfl) (by kernel_rfl) (fun _ _ _ h => h) (Or.inl ⟨by rfl, ?_⟩) (by assumption) ?_
        rotate_left
        · intro w hSw; go_simp; (try with_reducible rfl)
        (try simp only [Act.put, List.getElem_toArray, List.getElem_cons_succ, List.getElem_cons_zero, List.setIfInBounds_toArray, List.set_cons_zero, List.set_cons_succ])
        refine wpAnyH_take (i := 12) (v := ?_) rfl (by kernel_rfl) (by kernel_rfl) (by kernel_rfl) (fun _ _ _ h => h) (Or.inl ⟨by rfl, ?_⟩) (by assumption) ?_
        rotate_left
        · intro w hSw; go_simp; (try with_reducible rfl)
        (try simp only [Act.put, List.getElem_toArray, List.getElem_cons_succ, List.getElem_cons_zero, List.setIfInBounds_toArray, List.set_cons_zero, List.set_cons_succ])
        refine wpAnyH_take (i := 13) (v := ?_) rfl (by kernel_rfl) (by kernel_rfl) (by kernel_rfl) (fun _ _ _ h => h) (Or.inl ⟨by rfl, ?_⟩) (by assumption) ?_
        rotate_left
        · intro w hSw; go_simp; (try with_reducible rfl)
        (try simp only [Act.put, List.getElem_toArray, List.getElem_cons_succ, List.getElem_cons_zero, List.setIfInBounds_toArray, List.set_cons_zero, List.set_cons_succ])
        refine wpAnyH_take (i := 14) (v := ?_) rfl (by kernel_rfl) (by kernel_rfl) (by kernel_rfl) (fun _ _ _ h => h) (Or.inl ⟨by rfl, ?_⟩) (by assumption) ?_
        rotate_left
        · intro w hSw; go_simp; (try with_reducible rfl)
        (try simp only [Act.put, List.getElem_toArray, List.getElem_cons_succ, List.getElem_cons_zero, List.setIfInBounds_toArray, List.set_cons_zero, List.set_cons_succ])
        refine wpAnyH_take (i := 15) (v := ?_) rfl (by kernel_rfl) (by kernel_rfl) (by kernel_rfl) (fun _ _ _ h => h) (Or.inl ⟨by rfl, ?_⟩) (by assumption) ?_
        rotate_left
        · intro w hSw; go_simp; (try with_reducible rfl)
        (try simp only [Act.put, List.getElem_toArray, List.getElem_cons_succ, List.getElem_cons_zero, List.setIfInBounds_toArray, List.set_cons_zero, List.set_cons_succ])
        refine wpAnyH_take (i := 16) (v := ?_) rfl (by kernel_rfl) (by kernel_rfl) (by kernel_rfl) (fun _ _ _ h => h) (Or.inl ⟨by rfl, ?_⟩) (by assumption) ?_
        rotate_left
        · intro w hSw; go_simp; (try with_reducible rfl)
        (try simp only [Act.put, List.getElem_toArray, List.getElem_cons_succ, List.getElem_cons_zero, List.setIfInBounds_toArray, List.set_cons_zero, List.set_cons_succ])
        refine wpAnyH_take (i := 17) (v := ?_) rfl (by kernel_rfl) (by kernel_rfl) (by kernel_rfl) (fun _ _ _ h => h) (Or.inl ⟨by rfl, ?_⟩) (by assumption) ?_
        rotate_left
        · intro w hSw; go_simp; (try with_reducible rfl)
        (try simp only [Act.put, List.getElem_toArray, List.getElem_cons_succ, List.getElem_cons_zero, List.setIfInBounds_toArray, List.set_cons_zero, List.set_cons_succ])
        refine wpAnyH_take (i := 18) (v := ?_) rfl (by kernel_rfl) (by kernel_rfl) (by kernel_rfl) (fun _ _ _ h => h) (Or.inl ⟨by rfl, ?_⟩) (by assumption) ?_
        rotate_left
        · intro w hSw; go_simp; (try with_reducible rfl)
        (try simp only [Act.put, List.getElem_toArray, List.getElem_cons_succ, List.getElem_cons_zero, List.setIfInBounds_toArray, List.set_cons_zero, List.set_cons_succ])
        refine wpAnyH_take (i := 19) (v := ?_) rfl (by kernel_rfl) (by kernel_rfl) (by kernel_rfl) (fun _ _ _ h => h) (Or.inl ⟨by rfl, ?_⟩) (by assumption) ?_
        rotate_left
        · intro w hSw; go_simp; (try with_reducible rfl)
        (try simp only [Act.put, List.getElem_toArray, List.getElem_cons_succ, List.getElem_cons_zero, List.setIfInBounds_toArray, List.set_cons_zero, List.set_cons_succ])
        refine wpAnyH_ready (rs := [20]) (by kernel_rfl) (by simp) ?_
        refine AllReadyH.cons rfl (fun K hK => ?_) AllReadyH.nil
        go_simp
        refine (hc.out _ (by assumption)).mono ?_; rintro e w1 ⟨rfl, hS1⟩
        (try go_wp2_with fail)
        refine hK.out _ _ (by assumption) (fun hHeld => ?_)
        clear hK K
        (try simp only [Act.put, List.getElem_toArray, List.getElem_cons_succ, List.getElem_cons_zero, List.setIfInBounds_toArray, List.set_cons_zero, List.set_cons_succ])
        refine wpAnyH_take (i := 21) (v := ?_) rfl (by kernel_rfl) (by kernel_rfl) (by kernel_rfl) (fun _ _ _ h => h) (Or.inl ⟨by rfl, ?_⟩) (by assumption) ?_
        rotate_left
        · intro w hSw; go_simp; (try with_reducible rfl)
        (try simp only [Act.put, List.getElem_toArray, List.getElem_cons_succ, List.getElem_cons_zero, List.setIfInBounds_toArray, List.set_cons_zero, List.set_cons_succ])
        refine wpAnyH_done (by kernel_rfl) ?_ _
        have HV := hid ‹AcS w cs lo hi (some ⟨b, o, none⟩) l s b o k i x1 x2 F U _›
        have hy : Hid (M ||| 2 ^ i = parM cs n (k + 1)) := hY.out (by rw [hOn.out, d1, d2]; rfl)
        clear d1 d2
        obtain ⟨⟨c0, -, -, -⟩, -, -, -⟩ := HV.out
        go_wp2
        exact ⟨⟨k + 1, by go_num, by omega, by rw [wrap_pow H64.out, Hor.out, hy.out], HV.out.2.2.2⟩, by simp [intOf]; omega⟩
    · have hall : Hid (parM cs n k = actM cs n) := parM_all (by rw [Hlen.out]; omega)
      rw [hall.out]
      have hltI : ¬ (k : Int) < l.length := by omega
      go_wp2
      go_ret
      exact ⟨rfl, HI.out.be⟩
end Go.Proofs.YtgiecadlliblpaaGreat
namespace Go.Proofs.YtgiecadlliblpaaGreat
open Go.RowKit
set_option linter.unusedVariables false

theorem some_int {k : IntKind} {a b : Int} (h : a = b) : some (Value.int k a) = some (Value.int k b) := by rw [h]
structure BnS (w : World) (cs : List Cl) (lo hi : Nat) (a : Option Addr) (l : List Row) (W : World) : Prop where
  liv : LivS W cs lo hi a l
  be : Below w.heap.size w W
attribute [local go_sem] run_storeFn
set_option maxRecDepth 100000 in
set_option maxHeartbeats 3200000 in
theorem Bounds_any (a : Option Addr) (cap : Nat) (cs : List Cl) (lo hi : Nat) (l : List Row) (w : World) (hL : LivS w cs lo hi a l) :
    Calls Tryz.prog 78 #[.slice a l.length cap] w fun e w' => e = .returned (.tuple #[.int .i64 (loC cs), .int .i64 (hiC cs)]) ∧ Below w.heap.size w w' := by
  obtain ⟨hlen, hll⟩ := hL.len
  have Hlen := hid hlen
  have HL0 := hid hL
  obtain ⟨I, hI⟩ : ∃ I, liveI cs (min cs.length 64) = I := ⟨_, rfl⟩
  have HI := hid hI
  rw [hI] at Hlen
  clear hL hlen hI
  go_enter Tryz.func78, Tryz.ntmps78
  go_wp2_with fail
  go_loopw [4, 5, 10] (fun f u i wr => ∃ k : Nat, i = .int .i64 k ∧ k ≤ l.length ∧ f = .int .i64 (loB cs (I.take k)) ∧ u = .int .i64 (hiB cs (I.take k)) ∧ Hid (BnS w cs lo hi a l wr)) (fun _ _ i _ => l.length - (intOf i).toNat)
  case atStart => exact ⟨0, rfl, by omega, rfl, rfl, HL0.out, Below.refl _ _⟩
  case round =>
    obtain ⟨k, rfl, hk, rfl, rfl, HB⟩ := hrel
    obtain ⟨A, hA⟩ : ∃ x, loB cs (I.take k) = x := ⟨_, rfl⟩
    obtain ⟨B, hB⟩ : ∃ x, hiB cs (I.take k) = x := ⟨_, rfl⟩
    by_cases hlt : k < l.length
    · obtain ⟨b, o, i, x1, x2, rfl, hb, h64, hix, ⟨c0, c1, c2, c3⟩, hcall⟩ := HB.out.liv.row' hlt
      rw [HI.out] at hix
      obtain ⟨hki, hie⟩ := List.getElem?_eq_some_iff.1 hix
      have e1 := loB_snoc cs (I.take k) i
      have e2 := hiB_snoc cs (I.take k) i
      have ts := take_snoc I k hki
      rw [hie] at ts
      rw [← ts, hA] at e1
      rw [← ts, hB] at e2
      obtain ⟨F, hF⟩ : ∃ F, frD (atC cs i) = F := ⟨_, rfl⟩
      obtain ⟨U, hU⟩ : ∃ U, unD (atC cs i) = U := ⟨_, rfl⟩
      rw [hF] at c1 e1
      rw [hU] at c2 e2
      have E1 := hid e1
      have E2 := hid e2
      have hltI : (k : Int) < l.length := by omega
      have HB2 : Hid (∀ X, Below wr.heap.size wr X → BnS w cs lo hi (some ⟨b, o, none⟩) l X) := fun X hX => ⟨HB.out.liv.below hX, HB.out.be.trans (hX.mono HB.out.be.size)⟩
      rw [hA, hB]
      clear hA hB hb hix hki hie e1 e2 ts hF hU hcall
      rcases Int.lt_or_le F A with h1 | h1 <;> rcases Int.lt_or_le B U with h2 | h2
      all_goals
        go_upto_region 5 with fail
        go_region
        go_wp2
        exact ⟨⟨k + 1, by go_num, by omega, by rw [E1.out]; congr 1; omega, by rw [E2.out]; congr 1; omega, HB2.out _ (below_new (Below.refl _ _) (Nat.le_refl _)).drew⟩, by simp [intOf]; omega⟩
    · have hltI : ¬ (k : Int) < l.length := by omega
      have hall : Hid (I.take k = I) := by show _ = _; rw [List.take_of_length_le (by rw [Hlen.out]; omega)]
      have e1 := hid hA
      have e2 := hid hB
      rw [hall.out, ← HI.out] at e1 e2
      rw [hA, hB]
      clear hA hB
      go_wp2
      go_ret2
      rw [show loC cs = A from e1.out, show hiC cs = B from e2.out]
      exact ⟨rfl, HB.out.be⟩

/-! ### day.All -/
theorem LivS.wide {W : World} {cs : List Cl} {lo hi lo2 hi2 : Nat} {a : Option Addr} {l : List Row} (h : LivS W cs lo hi a l) (h1 : lo2 ≤ lo) (h2 : hi ≤ hi2) (h3 : hi2 ≤ W.heap.size) : LivS W cs lo2 hi2 a l :=
  ⟨h.sl, h.idx, fun r hr => by obtain ⟨a, b, c⟩ := h.row r hr; exact ⟨by omega, by omega, c⟩, fun b off e => by have := h.at_ b off e; omega, h3⟩
structure DayS (W : World) (cs : List Cl) (f t : Int) (lo hi b1 b2 b3 b4 b5 : Nat) : Prop where
  c1 : W.cell? ⟨b1, 0, none⟩ = some (.int .i64 f)
  c2 : W.cell? ⟨b2, 0, none⟩ = some (.int .i64 (loC cs))
  c3 : W.cell? ⟨b3, 0, none⟩ = some (.int .i64 t)
  c4 : W.cell? ⟨b4, 0, none⟩ = some (.int .i64 (hiC cs))
  c5 : ∃ a cap l, W.cell? ⟨b5, 0, none⟩ = some (.slice a (List.length l) cap) ∧ LivS W cs lo hi a l
  o : (lo ≤ b1 ∧ b1 < hi) ∧ (lo ≤ b2 ∧ b2 < hi) ∧ (lo ≤ b3 ∧ b3 < hi) ∧ (lo ≤ b4 ∧ b4 < hi) ∧ lo ≤ b5 ∧ b5 < hi
  le : hi ≤ W.heap.size
theorem DayS.keep {W W' : World} {cs : List Cl} {f t : Int} {lo hi b1 b2 b3 b4 b5 : Nat} (h : DayS W cs f t lo hi b1 b2 b3 b4 b5) (hs : hi ≤ W'.heap.size) (hb : ∀ b, lo ≤ b → b < hi → W'.heap[b]? = W.heap[b]?) : DayS W' cs f t lo hi b1 b2 b3 b4 b5 := by
  obtain ⟨⟨o1, p1⟩, ⟨o2, p2⟩, ⟨o3, p3⟩, ⟨o4, p4⟩, o5, p5⟩ := h.o
  have cell : ∀ {b v}, lo ≤ b → b < hi → W.cell? ⟨b, 0, none⟩ = some v → W'.cell? ⟨b, 0, none⟩ = some v := fun h1 h2 e => (World.cell?_of_block (w := W) (a := ⟨_, 0, none⟩) (hb _ h1 h2)).trans e
  obtain ⟨a, cap, l, h5, hL⟩ := h.c5
  exact ⟨cell o1 p1 h.c1, cell o2 p2 h.c2, cell o3 p3 h.c3, cell o4 p4 h.c4, ⟨a, cap, l, cell o5 p5 h5, hL.keep hs hb⟩, h.o, hs⟩
theorem DayS.below {W W' : World} {cs : List Cl} {f t : Int} {lo hi b1 b2 b3 b4 b5 : Nat} (h : DayS W cs f t lo hi b1 b2 b3 b4 b5) (hb : Below W.heap.size W W') : DayS W' cs f t lo hi b1 b2 b3 b4 b5 :=
  h.keep (Nat.le_trans h.le hb.size) (fun b _ h2 => hb.block b (by have := h.le; omega))
def DAllR (w w' : World) (cs : List Cl) (f t : Int) (v : Value) : Prop :=
  ∃ b1 b2 b3 b4 b5 : Nat, v = .func (.func 79) #[] #[.pointer (some ⟨b1, 0, none⟩), .pointer (some ⟨b2, 0, none⟩), .pointer (some ⟨b3, 0, none⟩), .pointer (some ⟨b4, 0, none⟩), .pointer (some ⟨b5, 0, none⟩)] ∧ DayS w' cs f t w.heap.size w'.heap.size b1 b2 b3 b4 b5
set_option maxRecDepth 100000 in
set_option maxHeartbeats 3200000 in
theorem DAll_any (f t : Int) (a : Option Addr) (cap : Nat) (cs : List Cl) (w : World) (hl : cs.length ≤ 9223372036854775807) (hs : Sl w a (cls cs)) (hok : ∀ c ∈ cs, c.Ok) :
    Calls Tryz.prog 49 #[.int .i64 f, .int .i64 t, .slice a cs.length cap] w fun e w' => (∃ v, e = .returned v ∧ DAllR w w' cs f t v) ∧ Below w.heap.size w w' := by
  have cL := hid (fun W h => Live_any a cap cs W hl h hok)
  have cB := hid (fun a cap lo hi l W h => Bounds_any a cap cs lo hi l W h)
  have Hs := hid hs
  clear hl hs hok
  go_enter Tryz.func49, Tryz.ntmps49
  obtain ⟨W1, hW1⟩ : ∃ W, (w.alloc (.cells #[.int .i64 f] 2)).alloc (.cells #[.int .i64 t] 2) = W := ⟨_, rfl⟩
  have z1 : W1.heap.size = w.heap.size + 1 + 1 := by rw [← hW1]; simp
  have B1 : Below w.heap.size w W1 := by rw [← hW1]; exact below_new (below_new (Below.refl _ _) (Nat.le_refl _)) (by simp)
  have k1 : W1.cell? ⟨w.heap.size, 0, none⟩ = some (.int .i64 f) := by rw [← hW1]; simp [go_sem]
  have k2 : W1.cell? ⟨w.heap.size + 1, 0, none⟩ = some (.int .i64 t) := by rw [← hW1]; simp [go_sem]
  have HW1 := hid hW1
  have Z1 := hid z1
  have HB1 := hid B1
  have K1 := hid k1
  have K2 := hid k2
  clear hW1 z1 B1 k1 k2
  go_upto_region 1 with fail
  rw [HW1.out]
  go_wp2_with fail
  refine (cL.out _ (Hs.out.below HB1.out)).mono ?_
  rintro e w2 ⟨⟨v, rfl, hR⟩, hB2⟩
  obtain ⟨b, n, cap', l, rfl, hn, hS⟩ := hR
  obtain rfl := hn.out
  have HS2 := hid hS
  have HB2 := hid hB2
  have Hls := hid (hS.len).2
  clear hn hS hB2
  have cBB : Hid (∀ W, Below w2.heap.size w2 W → Calls Tryz.prog 78 #[.slice b l.length cap'] W fun e w' => e = .returned (.tuple #[.int .i64 (loC cs), .int .i64 (hiC cs)]) ∧ Below W.heap.size W w') := fun W hW => cB.out b cap' _ _ l W (HS2.out.below hW)
  obtain ⟨lc, hlc⟩ : ∃ x, loC cs = x := ⟨_, rfl⟩
  obtain ⟨hc, hhc⟩ : ∃ x, hiC cs = x := ⟨_, rfl⟩
  rw [hlc, hhc] at cBB
  have Hlc := hid hlc
  have Hhc := hid hhc
  have hbA := hid (below_new (o := .cells #[.slice b l.length cap'] 112) (Below.refl w2.heap.size w2) (Nat.le_refl _))
  have kA : Hid ((w2.alloc (.cells #[.slice b l.length cap'] 112)).cell? ⟨w2.heap.size, 0, none⟩ = some (.slice b l.length cap')) := by show _ = _; simp [go_sem]
  clear hlc hhc
  go_wp2_with fail
  refine (cBB.out _ hbA.out).mono ?_
  rintro e w3 ⟨rfl, hB3⟩
  have hB3' := hid hB3
  clear hB3
  go_wp2_with fail
  go_ret
  have z1 := Z1.out
  have z2 := HB2.out.size
  have hA : Below w2.heap.size w2 (w2.alloc (.cells #[.slice b l.length cap'] 112)) := hbA.out
  have zA : (w2.alloc (.cells #[.slice b l.length cap'] 112)).heap.size = w2.heap.size + 1 := by simp
  have z3 := hB3'.out.size
  rw [zA] at z3
  have h3 : Below w2.heap.size w2 w3 := hA.trans (hB3'.out.mono (by omega))
  have h4 : Below w3.heap.size w3 ((w3.alloc (.cells #[.int .i64 lc] 2)).alloc (.cells #[.int .i64 hc] 2)) := below_new (below_new (Below.refl _ _) (Nat.le_refl _)) (by simp)
  have h34 : Below w2.heap.size w2 ((w3.alloc (.cells #[.int .i64 lc] 2)).alloc (.cells #[.int .i64 hc] 2)) := h3.trans (h4.mono (by omega))
  have h14 : Below W1.heap.size W1 ((w3.alloc (.cells #[.int .i64 lc] 2)).alloc (.cells #[.int .i64 hc] 2)) := HB2.out.trans (h34.mono (by omega))
  refine ⟨⟨_, rfl, w.heap.size, w3.heap.size, w.heap.size + 1, w3.heap.size + 1, w2.heap.size, rfl, ?_⟩, HB1.out.trans (h14.mono (by omega))⟩
  have zz : ((w3.alloc (.cells #[.int .i64 lc] 2)).alloc (.cells #[.int .i64 hc] 2)).heap.size = w3.heap.size + 1 + 1 := by simp
  refine ⟨(h14.cell (p := ⟨w.heap.size, 0, none⟩) (by simp only []; omega)).trans K1.out, ?_, (h14.cell (p := ⟨w.heap.size + 1, 0, none⟩) (by simp only []; omega)).trans K2.out, ?_, ⟨b, cap', l, ?_, (HS2.out.below h34).wide (by omega) (by rw [zz]; omega) (Nat.le_refl _)⟩, by rw [zz]; omega, Nat.le_refl _⟩
  · rw [Hlc.out]; simp [go_sem]
  · rw [Hhc.out]; simp [go_sem]
  · exact ((h4.cell (p := ⟨w2.heap.size, 0, none⟩) (by simp only []; omega)).trans (hB3'.out.cell (p := ⟨w2.heap.size, 0, none⟩) (by simp))).trans kA.out
end Go.Proofs.YtgiecadlliblpaaGreat

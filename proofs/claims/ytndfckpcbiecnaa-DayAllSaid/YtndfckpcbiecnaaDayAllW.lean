/-
  The function that ferialaw14.DayAll hands to what day.All has made: it gathers the days that are told, as long as more are wanted.
  ferialaw14.DayAll answers true.
-/
import Derived.Test.YtndfckpcbiecnaaDayMoreWalk
import Derived.Test.YtndfckpcbiecnaaDayRefs
import Derived.Test.YtndfckpcbiecnaaShEq
import Derived.Deep.CutRange
namespace Go.Proofs.Ytndfckpcbiecnaa
open Go.RowKit
set_option linter.unusedVariables false

def shs (l : List Int) : List Value := l.flatMap fun n => shList (shF n)
theorem shs_len (l : List Int) : (shs l).length = l.length * 10 := by
  induction l with
  | nil => rfl
  | cons n l ih => rw [show shs (n :: l) = shList (shF n) ++ shs l by simp [shs], List.length_append, ih]; simp only [List.length_cons, List.length_nil]; omega
theorem shs_snoc (l : List Int) (n : Int) : shs (l ++ [n]) = shs l ++ shList (shF n) := by simp [shs]
theorem shs_get : ∀ (l : List Int) (k : Nat) (hk : k < l.length), (shs l)[k * 10]? = some (.int .i64 l[k])
  | n :: l, 0, _ => by simp [shs, shF]
  | n :: l, k + 1, hk => by
    have e : shs (n :: l) = shList (shF n) ++ shs l := by simp [shs]
    rw [e, List.getElem?_append_right (by show 10 ≤ _; omega), show (k + 1) * 10 - (shList (shF n)).length = k * 10 by show (k + 1) * 10 - 10 = _; omega, shs_get l k (by simpa using hk)]; simp
theorem Sl.atSh {w : World} {a : Option Addr} {l : List Int} (h : Sl w a (shs l)) {k : Nat} (hk : k < l.length) :
    ∃ b off, a = some ⟨b, off, none⟩ ∧ b < w.heap.size ∧ w.cell? ⟨b, off + k * 10, none⟩ = some (.int .i64 l[k]) := by
  obtain ⟨b, off, rfl, hlt, hc⟩ := Sl.at h (k := k * 10) (by rw [shs_len]; omega)
  obtain ⟨g1, g2⟩ := List.getElem?_eq_some_iff.1 (shs_get l k hk)
  exact ⟨b, off, rfl, hlt, by rw [hc _ g1, g2]⟩
theorem eSh : El Try.prog 82 60 (.agg #[.int .i64 0, .int .i64 0, .int .i64 0, .int .i64 0, .int .i64 0, .int .i64 0, .int .i64 0, .int .i64 0, .int .i64 0, .int .i64 0]) 10 80 := ⟨Try.underlying82, by kernel_rfl, by kernel_rfl, by decide⟩
theorem shList_one (s : Nat → Int) : ∀ u ∈ shList s, u.oneCell' = true := by
  intro u hu
  simp only [shList, List.mem_cons, List.not_mem_nil, or_false] at hu
  rcases hu with rfl | rfl | rfl | rfl | rfl | rfl | rfl | rfl | rfl | rfl <;> rfl
/-- what has been gathered: k days -/
structure DcC (bf bg lo : Nat) (DT : List Int) (k : Nat) (O : Nat → Prop) (W : World) : Prop where
  f : W.cell? ⟨bf, 0, none⟩ = some (.bool true)
  ff : W.frozen? ⟨bf, 0, none⟩ = false
  g : ∃ v, W.cell? ⟨bg, 0, none⟩ = some v ∧ W.ownsRow lo 60 10 v k (shs (DT.take k)) ∧ ∀ b, v.ownBlock = some b → O b
  gf : W.frozen? ⟨bg, 0, none⟩ = false
  o : O bf ∧ O bg
  lt : ∀ x, O x → x < W.heap.size
theorem DcC.keep {bf bg lo : Nat} {DT : List Int} {k : Nat} {O : Nat → Prop} {W W' : World} (h : DcC bf bg lo DT k O W) (hs : W.heap.size ≤ W'.heap.size) (hO : ∀ b, O b → W'.heap[b]? = W.heap[b]?) : DcC bf bg lo DT k O W' := by
  obtain ⟨v, h1, h2, h3⟩ := h.g
  exact ⟨(World.cell?_of_block (w := W) (a := ⟨bf, 0, none⟩) (hO _ h.o.1)).trans h.f, (World.frozen?_of_block (w := W) (a := ⟨bf, 0, none⟩) (hO _ h.o.1)).trans h.ff,
    ⟨v, (World.cell?_of_block (w := W) (a := ⟨bg, 0, none⟩) (hO _ h.o.2)).trans h1, owns_agree h2 (fun b hb => hO b (h3 b hb)), h3⟩,
    (World.frozen?_of_block (w := W) (a := ⟨bg, 0, none⟩) (hO _ h.o.2)).trans h.gf, h.o, fun x hx => Nat.lt_of_lt_of_le (h.lt x hx) hs⟩
def DcJ (bf bg lo : Nat) (DT : List Int) (mo : Nat) : OwnP := fun k O W => k ≤ mo ∧ DcC bf bg lo DT k O W
def DcX (bf bg lo : Nat) (DT : List Int) (mo : Nat) : OwnP := fun k O W => k = mo + 1 ∧ DcC bf bg lo DT k O W
theorem dcJ_stab (bf bg lo : Nat) (DT : List Int) (mo : Nat) : StabO (DcJ bf bg lo DT mo) := fun k O W W' h hs hO => ⟨h.1, h.2.keep hs hO⟩
theorem dcX_stab (bf bg lo : Nat) (DT : List Int) (mo : Nat) : StabO (DcX bf bg lo DT mo) := fun k O W W' h hs hO => ⟨h.1, h.2.keep hs hO⟩
theorem dcJ_lt (bf bg lo : Nat) (DT : List Int) (mo : Nat) : LtO (DcJ bf bg lo DT mo) := fun k O W h => h.2.lt
theorem dcX_lt (bf bg lo : Nat) (DT : List Int) (mo : Nat) : LtO (DcX bf bg lo DT mo) := fun k O W h => h.2.lt
structure DcF (w : World) (l : List Cl) (a : Option Addr) (cap b3 b5 bf : Nat) (mo : Nat) (bx : Nat) (s : Nat → Int) (W0 W : World) : Prop where
  c3 : W.cell? ⟨b3, 0, none⟩ = some (.slice a l.length cap)
  c5 : W.cell? ⟨b5, 0, none⟩ = some (.int .u8 (mo : Nat))
  cf : W.cell? ⟨bf, 0, none⟩ = some (.bool true)
  ff : W.frozen? ⟨bf, 0, none⟩ = false
  sh : ShS W bx s
  be : Eff (fun b => b = bf) W0 W
  l3 : b3 < W0.heap.size
  l5 : b5 < W0.heap.size
  lf : bf < W0.heap.size
  lx : W0.heap.size ≤ bx ∧ bx < W.heap.size
theorem DcF.keep {w : World} {l : List Cl} {a : Option Addr} {cap b3 b5 bf mo bx : Nat} {s : Nat → Int} {W0 W W' : World} (h : DcF w l a cap b3 b5 bf mo bx s W0 W) (hb : Below W.heap.size W W') : DcF w l a cap b3 b5 bf mo bx s W0 W' := by
  have hsz := h.be.size
  exact ⟨(hb.cell (p := ⟨b3, 0, none⟩) (Nat.lt_of_lt_of_le h.l3 hsz)).trans h.c3, (hb.cell (p := ⟨b5, 0, none⟩) (Nat.lt_of_lt_of_le h.l5 hsz)).trans h.c5, (hb.cell (p := ⟨bf, 0, none⟩) (Nat.lt_of_lt_of_le h.lf hsz)).trans h.cf,
    (hb.frozen (p := ⟨bf, 0, none⟩) (Nat.lt_of_lt_of_le h.lf hsz)).trans h.ff, h.sh.below hb h.lx.2, h.be.trans (Eff.of_below (O := fun b => b = bf) hb) (fun b h => .inl h), h.l3, h.l5, h.lf, h.lx.1, Nat.lt_of_lt_of_le h.lx.2 hb.size⟩
theorem DcF.set {w : World} {l : List Cl} {a : Option Addr} {cap b3 b5 bf mo bx : Nat} {s : Nat → Int} {W0 W : World} (h : DcF w l a cap b3 b5 bf mo bx s W0 W) (n3 : b3 ≠ bf) (n5 : b5 ≠ bf) : DcF w l a cap b3 b5 bf mo bx s W0 (W.setCell ⟨bf, 0, none⟩ (.bool true)) := by
  obtain ⟨c3, c5, cf, ff, ⟨s0, s1, s2, s3, s4, s5, s6, s7, s8, s9⟩, be, l3, l5, lf, lx⟩ := h
  have nx : bx ≠ bf := by omega
  have e : Eff (fun b => b = bf) W (W.setCell ⟨bf, 0, none⟩ (.bool true)) := by
    have hb : Below 0 W (W.setCell ⟨bf, 0, none⟩ (.bool true)) := below_set (Below.refl _ _) (by omega)
    exact ⟨hb.os, hb.tape, hb.output, hb.size, fun k hk hn => Below.heap_setCell _ _ _ _ hn⟩
  refine ⟨by simp [go_sem, c3], by simp [go_sem, c5], by simp [go_sem, cf], by simp [go_sem, ff], ?_, be.trans e (fun b h => .inl h), l3, l5, lf, by simpa using lx⟩
  exact ⟨by simp [go_sem, s0], by simp [go_sem, s1], by simp [go_sem, s2], by simp [go_sem, s3], by simp [go_sem, s4], by simp [go_sem, s5], by simp [go_sem, s6], by simp [go_sem, s7], by simp [go_sem, s8], by simp [go_sem, s9]⟩
abbrev DcP (w : World) (l : List Cl) (a : Option Addr) (cap b3 b5 bf : Nat) (mo : Nat) (bx : Nat) (s : Nat → Int) (W0 W : World) : Prop :=
  W.cell? ⟨b3, 0, none⟩ = some (.slice a l.length cap) ∧ (W.cell? ⟨bf, 0, none⟩ = some (.bool true) ∧ W.frozen? ⟨bf, 0, none⟩ = false) ∧ ShS W bx s ∧ DcF w l a cap b3 b5 bf mo bx s W0 W
theorem DcF.p {w : World} {l : List Cl} {a : Option Addr} {cap b3 b5 bf mo bx : Nat} {s : Nat → Int} {W0 W : World} (h : DcF w l a cap b3 b5 bf mo bx s W0 W) : DcP w l a cap b3 b5 bf mo bx s W0 W := ⟨h.c3, ⟨h.cf, h.ff⟩, h.sh, h⟩
attribute [local go_sem ↓] eql_shS neq_shS
set_option maxRecDepth 100000 in
set_option maxHeartbeats 6400000 in
theorem DA1_any (w : World) (l : List Cl) (a : Option Addr) (cap b3 b5 bf bg lo mo : Nat) (DT : List Int) (k : Nat) (n : Int) (O : Nat → Prop) (W : World) (hl : l.length ≤ 9223372036854775807) (hok : ∀ c ∈ l, c.Ok)
    (hn : DT[k]? = some n) (h0 : 0 ≤ n) (h1 : n < 146097) (hk : k ≤ 146097) (hmo : mo ≤ 255) (hJ : DcJ bf bg lo DT mo k O W) (hs : ∀ X, Eff O W X → Sl X a (cls l)) (c3 : W.cell? ⟨b3, 0, none⟩ = some (.slice a l.length cap)) (c5 : W.cell? ⟨b5, 0, none⟩ = some (.int .u8 (mo : Nat)))
    (l3 : b3 < W.heap.size) (l5 : b5 < W.heap.size) (n3 : ¬ O b3) (n5 : ¬ O b5) (hfg : bf ≠ bg) (hlo : bf < lo ∧ bg < lo ∧ b5 < lo ∧ lo ≤ W.heap.size) :
    Calls Try.prog 49 #[shN n, .int .u64 (actM l n : Nat), .pointer (some ⟨bf, 0, none⟩), .pointer (some ⟨b3, 0, none⟩), .pointer (some ⟨bg, 0, none⟩), .pointer (some ⟨b5, 0, none⟩)] W fun e W' =>
      ∃ O' : Nat → Prop, (∀ b, O b → O' b) ∧ (∀ b, O' b → O b ∨ W.heap.size ≤ b) ∧ Eff O W W' ∧ ((e = .returned (.bool true) ∧ DcJ bf bg lo DT mo (k + 1) O' W') ∨ (e = .returned (.bool false) ∧ DcX bf bg lo DT mo (k + 1) O' W')) := by
  obtain ⟨hkm, hC⟩ := hJ
  obtain ⟨v, g1, g2, g3⟩ := hC.g
  have hof := hC.o.1
  have hog := hC.o.2
  have hlf := hC.lt _ hof
  have hlg := hC.lt _ hog
  have cA := hid (fun X h => RActive_any a cap l n X hl h hok h0 h1)
  have cS : Hid (∀ v, v = n → ∀ X, Calls Try.prog 35 #[.int .i64 v] X fun e w' => e = .returned (shN n) ∧ Below X.heap.size X w') := by
    rintro v rfl X; exact RShape_any v X h0 h1
  have heq := hid (fun X => eqlSh_run (shF n) X (shF_bnd h0 h1))
  have HF1 : Hid (DcF w l a cap b3 b5 bf mo W.heap.size (shF n) W (W.alloc (.cells (shList (shF n)).toArray 60))) := by
    have hb := below_new (o := .cells (shList (shF n)).toArray 60) (Below.refl W.heap.size W) (Nat.le_refl _)
    exact ⟨(hb.cell (p := ⟨b3, 0, none⟩) l3).trans c3, (hb.cell (p := ⟨b5, 0, none⟩) l5).trans c5, (hb.cell (p := ⟨bf, 0, none⟩) hlf).trans hC.f, (hb.frozen (p := ⟨bf, 0, none⟩) hlf).trans hC.ff, shC_new W 60 _ _ _ _ _ _ _ _ _ _, Eff.of_below hb, l3, l5, hlf, Nat.le_refl _, by simp⟩
  have hMl := actM_lt l n
  obtain ⟨hk1, hkn⟩ := List.getElem?_eq_some_iff.1 hn
  have ts := take_snoc DT k hk1
  rw [hkn] at ts
  have hsn := shs_snoc (DT.take k) n
  rw [← ts] at hsn
  have en : shF n 0 = n := rfl
  obtain ⟨M, hM⟩ : ∃ M, actM l n = M := ⟨_, rfl⟩
  rw [hM] at cA hMl ⊢
  rw [← shq_shF] at cA cS ⊢
  obtain ⟨s, hsf⟩ : ∃ s, shF n = s := ⟨_, rfl⟩
  rw [hsf] at cA cS heq HF1 hsn en ⊢
  rw [shq] at cA cS heq ⊢
  obtain rfl : n = s 0 := en.symm
  obtain ⟨W1, hW1⟩ : ∃ X, W.alloc (.cells (shList s).toArray 60) = X := ⟨_, rfl⟩
  rw [hW1] at HF1
  have HW1 := hid hW1
  obtain ⟨bx, hbx⟩ : ∃ b, W.heap.size = b := ⟨_, rfl⟩
  have HBx := hid hbx
  rw [hbx] at HF1
  have HG := hid (And.intro g1 (And.intro g2 g3))
  have HGf := hid hC.gf
  have Hof := hid hof
  have Hs := hid hs
  have Hog := hid hog
  have Hsn := hid hsn
  have Hlt := hid hC.lt
  have HN := hid (And.intro n3 n5)
  have Hlf := hid hlf
  have Hlg := hid hlg
  have Hlo := hid hlo
  have Hfg := hid hfg
  have Hl5 := hid l5
  clear hC g1 g2 g3 hof hog hs c3 c5 l3 l5 n3 n5 hM hsf en hW1 hbx hsn ts hkn hk1 hn hok hl hlf hlg hlo hfg
  go_enter Try.func49, Try.ntmps49
  go_upto_region 1 with fail
  rw [HW1.out, HBx.out]
  have HP1 := hid (HF1.out.keep (Below.refl _ _).drew).p
  have hA1 : Hid (∀ X, DcP w l a cap b3 b5 bf mo bx s W X → Calls Try.prog 50 #[.slice a l.length cap, .agg #[.int .i64 (s 0), .int .i64 (s 1), .int .i64 (s 2), .int .i64 (s 3), .int .i64 (s 4), .int .i64 (s 5), .int .i64 (s 6), .int .i64 (s 7), .int .i64 (s 8), .int .i64 (s 9)]] X fun e w' => e = .returned (.int .u64 (M : Nat)) ∧ DcP w l a cap b3 b5 bf mo bx s W w') := fun X h =>
    (cA.out X (Hs.out X (h.2.2.2.be.wide (fun b e => by rw [e]; exact Hof.out)))).mono fun e w' ⟨he, hb⟩ => ⟨he, (h.2.2.2.keep hb).p⟩
  have hS1 : Hid (∀ v, v = s 0 → ∀ X, DcP w l a cap b3 b5 bf mo bx s W X → Calls Try.prog 35 #[.int .i64 v] X fun e w' => e = .returned (.agg #[.int .i64 (s 0), .int .i64 (s 1), .int .i64 (s 2), .int .i64 (s 3), .int .i64 (s 4), .int .i64 (s 5), .int .i64 (s 6), .int .i64 (s 7), .int .i64 (s 8), .int .i64 (s 9)]) ∧ DcP w l a cap b3 b5 bf mo bx s W w') := fun v hv X h =>
    (cS.out v hv X).mono fun e w' ⟨he, hb⟩ => ⟨he, (h.2.2.2.keep hb).p⟩
  have e1 : decide (0 ≤ s 0) = true := decide_eq_true h0
  have e2 : decide (s 0 < 146097) = true := decide_eq_true h1
  refine wp_region_held_drew (S := fun X => DcP w l a cap b3 b5 bf mo bx s W X) (by kernel_rfl) HP1.out (fun hHeld => ?_)
  refine wpAnyH_take (i := 0) (v := ?_) rfl (by kernel_rfl) (by kernel_rfl) (by kernel_rfl) (fun _ _ _ h => h) (Or.inl ⟨by rfl, ?_⟩) (by assumption) ?_
  rotate_left
  · intro w hSw; go_simp; (try with_reducible rfl)
  (try simp only [Act.put, List.getElem_toArray, List.getElem_cons_zero, List.setIfInBounds_toArray, List.set_cons_zero, List.set_cons_succ])
  refine wpAnyH_take (i := 1) (v := ?_) rfl (by kernel_rfl) (by kernel_rfl) (by kernel_rfl) (fun _ _ _ h => h) (Or.inl ⟨by rfl, ?_⟩) (by assumption) ?_
  rotate_left
  · intro w hSw; go_simp; (try with_reducible rfl)
  (try simp only [Act.put, List.getElem_toArray, List.getElem_cons_succ, List.getElem_cons_zero, List.setIfInBounds_toArray, List.set_cons_zero, List.set_cons_succ])
  refine wpAnyH_take (i := 2) (v := ?_) rfl (by kernel_rfl) (by kernel_rfl) (by kernel_rfl) (fun _ _ _ h => h) (Or.inl ⟨by rfl, ?_⟩) (by assumption) ?_
  rotate_left
  · intro w hSw; go_simp; (try with_reducible rfl)
  (try simp only [Act.put, List.getElem_toArray, List.getElem_cons_succ, List.getElem_cons_zero, List.setIfInBounds_toArray, List.set_cons_zero, List.set_cons_succ])
  refine wpAnyH_take (i := 3) (v := ?_) rfl (by kernel_rfl) (by kernel_rfl) (by kernel_rfl) (fun _ _ _ h => h) (Or.inl ⟨by rfl, ?_⟩) (by assumption) ?_
  rotate_left
  · intro w hSw; go_simp; (try with_reducible rfl)
  (try simp only [Act.put, List.getElem_toArray, List.getElem_cons_succ, List.getElem_cons_zero, List.setIfInBounds_toArray, List.set_cons_zero, List.set_cons_succ])
  refine wpAnyH_take (i := 4) (v := ?_) rfl (by kernel_rfl) (by kernel_rfl) (by kernel_rfl) (fun _ _ _ h => h) (Or.inl ⟨by rfl, ?_⟩) (by assumption) ?_
  rotate_left
  · intro w hSw; go_simp; (try with_reducible rfl)
  (try simp only [Act.put, List.getElem_toArray, List.getElem_cons_succ, List.getElem_cons_zero, List.setIfInBounds_toArray, List.set_cons_zero, List.set_cons_succ])
  refine wpAnyH_take (i := 5) (v := ?_) rfl (by kernel_rfl) (by kernel_rfl) (by kernel_rfl) (fun _ _ _ h => h) (Or.inl ⟨by rfl, ?_⟩) (by assumption) ?_
  rotate_left
  · intro w hSw; go_simp; (try with_reducible rfl)
  (try simp only [Act.put, List.getElem_toArray, List.getElem_cons_succ, List.getElem_cons_zero, List.setIfInBounds_toArray, List.set_cons_zero, List.set_cons_succ])
  refine wpAnyH_take (i := 6) (v := ?_) rfl (by kernel_rfl) (by kernel_rfl) (by kernel_rfl) (fun _ _ _ h => h) (Or.inl ⟨by rfl, ?_⟩) (by assumption) ?_
  rotate_left
  · intro w hSw; go_simp; (try with_reducible rfl)
  (try simp only [Act.put, List.getElem_toArray, List.getElem_cons_succ, List.getElem_cons_zero, List.setIfInBounds_toArray, List.set_cons_zero, List.set_cons_succ])
  refine wpAnyH_take (i := 7) (v := ?_) rfl (by kernel_rfl) (by kernel_rfl) (by kernel_rfl) (fun _ _ _ h => h) (Or.inl ⟨by rfl, ?_⟩) (by assumption) ?_
  rotate_left
  · intro w hSw; go_simp; (try with_reducible rfl)
  (try simp only [Act.put, List.getElem_toArray, List.getElem_cons_succ, List.getElem_cons_zero, List.setIfInBounds_toArray, List.set_cons_zero, List.set_cons_succ])
  refine wpAnyH_take (i := 8) (v := ?_) rfl (by kernel_rfl) (by kernel_rfl) (by kernel_rfl) (fun _ _ _ h => h) (Or.inl ⟨by rfl, ?_⟩) (by assumption) ?_
  rotate_left
  · intro w hSw; go_simp; (try with_reducible rfl)
  (try simp only [Act.put, List.getElem_toArray, List.getElem_cons_succ, List.getElem_cons_zero, List.setIfInBounds_toArray, List.set_cons_zero, List.set_cons_succ])
  refine wpAnyH_take (i := 9) (v := ?_) rfl (by kernel_rfl) (by kernel_rfl) (by kernel_rfl) (fun _ _ _ h => h) (Or.inl ⟨by rfl, ?_⟩) (by assumption) ?_
  rotate_left
  · intro w hSw; go_simp; (try with_reducible rfl)
  (try simp only [Act.put, List.getElem_toArray, List.getElem_cons_succ, List.getElem_cons_zero, List.setIfInBounds_toArray, List.set_cons_zero, List.set_cons_succ])
  refine wpAnyH_take (i := 10) (v := ?_) rfl (by kernel_rfl) (by kernel_rfl) (by kernel_rfl) (fun _ _ _ h => h) (Or.inl ⟨by rfl, ?_⟩) (by assumption) ?_
  rotate_left
  · intro w hSw; go_simp; (try with_reducible rfl)
  (try simp only [Act.put, List.getElem_toArray, List.getElem_cons_succ, List.getElem_cons_zero, List.setIfInBounds_toArray, List.set_cons_zero, List.set_cons_succ])
  refine wpAnyH_take (i := 11) (v := ?_) rfl (by kernel_rfl) (by kernel_rfl) (by kernel_rfl) (fun _ _ _ h => h) (Or.inl ⟨by rfl, ?_⟩) (by assumption) ?_
  rotate_left
  · intro w hSw; go_simp; (try with_reducible rfl)
  (try simp only [Act.put, List.getElem_toArray, List.getElem_cons_succ, List.getElem_cons_zero, List.setIfInBounds_toArray, List.set_cons_zero, List.set_cons_succ])
  refine wpAnyH_take (i := 12) (v := ?_) rfl (by kernel_rfl) (by kernel_rfl) (by kernel_rfl) (fun _ _ _ h => h) (Or.inl ⟨by rfl, ?_⟩) (by assumption) ?_
  rotate_left
  · intro w hSw; go_simp; (try with_reducible rfl)
  (try simp only [Act.put, List.getElem_toArray, List.getElem_cons_succ, List.getElem_cons_zero, List.setIfInBounds_toArray, List.set_cons_zero, List.set_cons_succ])
  refine wpAnyH_take (i := 13) (v := ?_) rfl (by kernel_rfl) (by kernel_rfl) (by kernel_rfl) (fun _ _ _ h => h) (Or.inl ⟨by rfl, ?_⟩) (by assumption) ?_
  rotate_left
  · intro w hSw; go_simp; (try with_reducible rfl)
  (try simp only [Act.put, List.getElem_toArray, List.getElem_cons_succ, List.getElem_cons_zero, List.setIfInBounds_toArray, List.set_cons_zero, List.set_cons_succ])
  refine wpAnyH_take (i := 14) (v := ?_) rfl (by kernel_rfl) (by kernel_rfl) (by kernel_rfl) (fun _ _ _ h => h) (Or.inl ⟨by rfl, ?_⟩) (by assumption) ?_
  rotate_left
  · intro w hSw; go_simp; (try with_reducible rfl)
  (try simp only [Act.put, List.getElem_toArray, List.getElem_cons_succ, List.getElem_cons_zero, List.setIfInBounds_toArray, List.set_cons_zero, List.set_cons_succ])
  refine wpAnyH_take (i := 15) (v := (.int .i64 (s 0))) rfl (by kernel_rfl) (by kernel_rfl) (by kernel_rfl) (fun _ _ _ h => h) (Or.inl ⟨by rfl, fun w hSw => ?_⟩) (by assumption) ?_
  · go_simp; (try (intro _; omega)); (try omega)
  (try simp only [Act.put, List.getElem_toArray, List.getElem_cons_succ, List.getElem_cons_zero, List.setIfInBounds_toArray, List.set_cons_zero, List.set_cons_succ])
  refine wpAnyH_take (i := 16) (v := (.int .i64 (s 0))) rfl (by kernel_rfl) (by kernel_rfl) (by kernel_rfl) (fun _ _ _ h => h) (Or.inl ⟨by rfl, fun w hSw => ?_⟩) (by assumption) ?_
  · go_simp; (try (intro _; omega)); (try omega)
  (try simp only [Act.put, List.getElem_toArray, List.getElem_cons_succ, List.getElem_cons_zero, List.setIfInBounds_toArray, List.set_cons_zero, List.set_cons_succ])
  refine wpAnyH_ready (rs := [17]) (by kernel_rfl) (by simp) ?_
  refine AllReadyH.cons rfl (fun K hK => ?_) AllReadyH.nil
  go_simp
  refine (hS1.out _ (by omega) _ (by assumption)).mono ?_; rintro e w5 ⟨rfl, hS⟩
  (try go_wp2_with fail)
  refine hK.out _ _ (by assumption) (fun hHeld => ?_)
  clear hK K
  (try simp only [Act.put, List.getElem_toArray, List.getElem_cons_succ, List.getElem_cons_zero, List.setIfInBounds_toArray, List.set_cons_zero, List.set_cons_succ])
  refine wpAnyH_take (i := 18) (v := ?_) rfl (by kernel_rfl) (by kernel_rfl) (by kernel_rfl) (fun _ _ _ h => h) (Or.inl ⟨by rfl, ?_⟩) (by assumption) ?_
  rotate_left
  · intro w hSw; go_simp; rw [heq.out, Result.andThen_ok]
  (try simp only [Act.put, List.getElem_toArray, List.getElem_cons_succ, List.getElem_cons_zero, List.setIfInBounds_toArray, List.set_cons_zero, List.set_cons_succ])
  refine wpAnyH_take (i := 19) (v := ?_) rfl (by kernel_rfl) (by kernel_rfl) (by kernel_rfl) (fun _ _ _ h => h) (Or.inl ⟨by rfl, ?_⟩) (by assumption) ?_
  rotate_left
  · intro w hSw; go_simp; (try with_reducible rfl)
  (try simp only [Act.put, List.getElem_toArray, List.getElem_cons_succ, List.getElem_cons_zero, List.setIfInBounds_toArray, List.set_cons_zero, List.set_cons_succ])
  refine wpAnyH_take (i := 20) (v := ?_) rfl (by kernel_rfl) (by kernel_rfl) (by kernel_rfl) (fun _ _ _ h => h) (Or.inl ⟨by rfl, ?_⟩) (by assumption) ?_
  rotate_left
  · intro w hSw; go_simp; (try with_reducible rfl)
  (try simp only [Act.put, List.getElem_toArray, List.getElem_cons_succ, List.getElem_cons_zero, List.setIfInBounds_toArray, List.set_cons_zero, List.set_cons_succ])
  refine wpAnyH_take (i := 21) (v := ?_) rfl (by kernel_rfl) (by kernel_rfl) (by kernel_rfl) (fun _ _ _ h => h) (Or.inl ⟨by rfl, ?_⟩) (by assumption) ?_
  rotate_left
  · intro w hSw; go_simp; (try with_reducible rfl)
  (try simp only [Act.put, List.getElem_toArray, List.getElem_cons_succ, List.getElem_cons_zero, List.setIfInBounds_toArray, List.set_cons_zero, List.set_cons_succ])
  refine wpAnyH_take (i := 22) (v := ?_) rfl (by kernel_rfl) (by kernel_rfl) (by kernel_rfl) (fun _ _ _ h => h) (Or.inl ⟨by rfl, ?_⟩) (by assumption) ?_
  rotate_left
  · intro w hSw; go_simp; (try with_reducible rfl)
  (try simp only [Act.put, List.getElem_toArray, List.getElem_cons_succ, List.getElem_cons_zero, List.setIfInBounds_toArray, List.set_cons_zero, List.set_cons_succ])
  refine wpAnyH_take (i := 23) (v := ?_) rfl (by kernel_rfl) (by kernel_rfl) (by kernel_rfl) (fun _ _ _ h => h) (Or.inl ⟨by rfl, ?_⟩) (by assumption) ?_
  rotate_left
  · intro w hSw; go_simp; (try with_reducible rfl)
  (try simp only [Act.put, List.getElem_toArray, List.getElem_cons_succ, List.getElem_cons_zero, List.setIfInBounds_toArray, List.set_cons_zero, List.set_cons_succ])
  refine wpAnyH_ready (rs := [24]) (by kernel_rfl) (by simp) ?_
  refine AllReadyH.cons rfl (fun K hK => ?_) AllReadyH.nil
  go_simp
  refine (hA1.out _ (by assumption)).mono ?_; rintro e w6 ⟨rfl, hS⟩
  (try go_wp2_with fail)
  refine hK.out _ _ (by assumption) (fun hHeld => ?_)
  clear hK K
  (try simp only [Act.put, List.getElem_toArray, List.getElem_cons_succ, List.getElem_cons_zero, List.setIfInBounds_toArray, List.set_cons_zero, List.set_cons_succ])
  refine wpAnyH_take (i := 25) (v := ?_) rfl (by kernel_rfl) (by kernel_rfl) (by kernel_rfl) (fun _ _ _ h => h) (Or.inl ⟨by rfl, ?_⟩) (by assumption) ?_
  rotate_left
  · intro w hSw; go_simp; (try with_reducible rfl)
  (try simp only [Act.put, List.getElem_toArray, List.getElem_cons_succ, List.getElem_cons_zero, List.setIfInBounds_toArray, List.set_cons_zero, List.set_cons_succ])
  refine wpAnyH_take (i := 26) (v := ?_) rfl (by kernel_rfl) (by kernel_rfl) (by kernel_rfl) (fun _ _ _ h => h) (Or.inl ⟨by rfl, ?_⟩) (by assumption) ?_
  rotate_left
  · intro w hSw; go_simp; (try with_reducible rfl)
  (try simp only [Act.put, List.getElem_toArray, List.getElem_cons_succ, List.getElem_cons_zero, List.setIfInBounds_toArray, List.set_cons_zero, List.set_cons_succ])
  have HS6 := (‹DcP w l a cap b3 b5 bf mo bx s W _›).2.2.2
  have HS7 := hid (HS6.set (fun e => HN.out.1 (e ▸ Hof.out)) (fun e => HN.out.2 (e ▸ Hof.out)))
  have p2 := HS6.cf
  have p3 := HS6.ff
  refine wpAnyH_ready (rs := [27]) (by kernel_rfl) (by simp) ?_
  refine AllReadyH.cons rfl (fun K hK => ?_) AllReadyH.nil
  clear HS6
  go_simp
  refine hK.out _ _ HS7.out.p (fun hHeld => ?_)
  clear hK K p2 p3
  refine wpAnyH_done (by kernel_rfl) ?_ _
  clear hHeld
  obtain ⟨W7, hW7⟩ : ∃ X, w6.setCell ⟨bf, 0, none⟩ (.bool true) = X := ⟨_, rfl⟩
  rw [hW7] at HS7 ⊢
  clear hW7
  obtain ⟨g1, g2, g3⟩ := HG.out
  have hE7 := HS7.out.be
  have hblo := Hlo.out
  have hsz7 := hE7.size
  have hvb : ∀ b, v.ownBlock = some b → b ≠ bf := fun b hb e => by have := (g2.lt b hb).1; omega
  have own7 : W7.ownsRow lo 60 10 v k (shs (DT.take k)) := owns_agree g2 (fun b hb => hE7.block b (g2.lt b hb).2 (hvb b hb))
  have gne : bg ≠ bf := fun e => Hfg.out e.symm
  have k1 : W7.cell? ⟨bg, 0, none⟩ = some v := (hE7.cell (p := ⟨bg, 0, none⟩) Hlg.out gne).trans g1
  have kf : W7.frozen? ⟨bg, 0, none⟩ = false := (World.frozen?_of_block (w := W) (a := ⟨bg, 0, none⟩) (hE7.block bg Hlg.out gne)).trans HGf.out
  obtain ⟨av, capv, rfl, -, -⟩ := owns_form g2
  have Own7 := hid own7
  have HE7 := hid hE7
  have Kf := hid kf
  have Hvb := hid g3
  have Gne := hid gne
  obtain ⟨q0, q1, q2, q3, q4, q5, q6, q7, q8, q9⟩ := HS7.out.sh
  have hlo7 : lo ≤ W7.heap.size := by omega
  clear g1 g2 g3 hE7 hvb own7 gne kf hblo hsz7
  go_wp2_with (at_builtin; refine appLit eSh (.tmp 36) (.tmp 38) rfl rfl rfl rfl rfl Own7.out rfl (shList_one s) (by omega) (by omega) hlo7 ?_)
  intro a' cap' w8 h1 h2 h3 h4
  have hblo := Hlo.out
  have x1 := grown_cell h2 k1 (fun e => by have := (Own7.out.lt _ e).1; omega)
  have x2 := (h3.frozen (p := ⟨bg, 0, none⟩) (by simp only []; omega)).trans Kf.out
  have x3 := (h3.cell (p := ⟨bf, 0, none⟩) (by simp only []; omega)).trans HS7.out.cf
  have x4 := (h3.cell (p := ⟨b5, 0, none⟩) (by simp only []; omega)).trans HS7.out.c5
  have x5 := hid ((h3.frozen (p := ⟨bf, 0, none⟩) (by simp only []; omega)).trans HS7.out.ff)
  have nf : bf ≠ bg := Hfg.out
  have n5 : b5 ≠ bg := fun e => HN.out.2 (e ▸ Hog.out)
  have H1 := hid h1
  have H2 := hid h2
  have H3 := hid h3
  have H4 := hid h4
  clear k1 h1 h2 h3 h4 q0 q1 q2 q3 q4 q5 q6 q7 q8 q9 hblo
  have hend : Hid (∃ O' : Nat → Prop, (∀ b, O b → O' b) ∧ (∀ b, O' b → O b ∨ W.heap.size ≤ b) ∧ Eff O W (w8.setCell ⟨bg, 0, none⟩ (.slice a' (k + 1) cap')) ∧ DcC bf bg lo DT (k + 1) O' (w8.setCell ⟨bg, 0, none⟩ (.slice a' (k + 1) cap'))) := by
    have hsz8 := H2.out.size
    have hsz7 := HE7.out.size
    have hg : Eff (fun b => O b) W7 w8 := ⟨H2.out.os, H2.out.tape, H2.out.output, H2.out.size, fun b hb hn => H2.out.block b hb (fun e => hn (Hvb.out b e.symm))⟩
    have hs : Eff (fun b => O b) w8 (w8.setCell ⟨bg, 0, none⟩ (.slice a' (k + 1) cap')) := by
      have hb : Below 0 w8 (w8.setCell ⟨bg, 0, none⟩ (.slice a' (k + 1) cap')) := below_set (Below.refl _ _) (by omega)
      exact ⟨hb.os, hb.tape, hb.output, hb.size, fun b hk hn => Below.heap_setCell _ _ _ _ (fun e => hn (by rw [e]; exact Hog.out))⟩
    have hE : Eff O W (w8.setCell ⟨bg, 0, none⟩ (.slice a' (k + 1) cap')) := ((HE7.out.wide (fun b e => by rw [e]; exact Hof.out)).trans hg (fun b h => .inl h)).trans hs (fun b h => .inl h)
    refine ⟨fun b => O b ∨ (W.heap.size ≤ b ∧ b < w8.heap.size), fun b h => .inl h, fun b h => h.imp id (·.1), hE, (World.cell?_setCell_other _ _ _ _ (by intro e; injection e with e1; first | exact nf e1 | exact nf e1.symm)).trans x3, by simp [go_sem, x5.out], ⟨.slice a' (k + 1) cap', by simp [go_sem, x1], ?_, fun b hb => ?_⟩, by simp [go_sem, x2], ⟨.inl Hof.out, .inl Hog.out⟩, fun x hx => ?_⟩
    · rw [Hsn.out]; exact ownsRow_setCell_below H1.out (by have := Hlo.out; simp only []; omega) _
    · rcases H4.out b hb with h | h
      · exact .inl (Hvb.out b h)
      · exact .inr ⟨by omega, (H1.out.lt b hb).2⟩
    · have : (w8.setCell ⟨bg, 0, none⟩ (.slice a' (k + 1) cap')).heap.size = w8.heap.size := by simp
      rw [this]
      rcases hx with h | h
      · have := Hlt.out x h; omega
      · exact h.2
  by_cases hle : k + 1 ≤ mo
  · have hleI : (k : Int) + 1 ≤ mo := by omega
    go_wp2
    go_ret
    obtain ⟨O', o1, o2, o3, o4⟩ := hend.out
    exact ⟨O', o1, o2, o3, .inl ⟨rfl, hle, o4⟩⟩
  · have hleI : ¬ (k : Int) + 1 ≤ mo := by omega
    go_wp2
    go_ret
    obtain ⟨O', o1, o2, o3, o4⟩ := hend.out
    exact ⟨O', o1, o2, o3, .inr ⟨rfl, by omega, o4⟩⟩
end Go.Proofs.Ytndfckpcbiecnaa
namespace Go.Proofs.Ytndfckpcbiecnaa
open Go.RowKit
set_option linter.unusedVariables false

theorem da_client (w : World) (l : List Cl) (a : Option Addr) (cap b3 b5 bf bg lo mo : Nat) (DT : List Int) (W3 : World) (hl : l.length ≤ 9223372036854775807) (hok : ∀ c ∈ l, c.Ok) (hlen : DT.length ≤ 146097) (hDT : ∀ n ∈ DT, 0 ≤ n ∧ n < 146097) (hmo : mo ≤ 255)
    (hs : Sl w a (cls l)) (hB : Below w.heap.size w W3) (c3 : W3.cell? ⟨b3, 0, none⟩ = some (.slice a l.length cap)) (c5 : W3.cell? ⟨b5, 0, none⟩ = some (.int .u8 (mo : Nat))) (l3 : b3 < W3.heap.size) (l5 : b5 < W3.heap.size) (n3 : b3 ≠ bf ∧ b3 ≠ bg) (n5 : b5 ≠ bf ∧ b5 ≠ bg) (hfg : bf ≠ bg)
    (hlo : bf < lo ∧ bg < lo ∧ b5 < lo ∧ lo ≤ W3.heap.size) (hwb : w.heap.size ≤ bf ∧ w.heap.size ≤ bg) :
    ClientV Try.prog (.func (.func 49) #[] #[.pointer (some ⟨bf, 0, none⟩), .pointer (some ⟨b3, 0, none⟩), .pointer (some ⟨bg, 0, none⟩), .pointer (some ⟨b5, 0, none⟩)]) (dyTell l DT) (DcJ bf bg lo DT mo) (DcX bf bg lo DT mo) (fun b => b = bf ∨ b = bg) W3 where
  form := ⟨_, _, _, rfl⟩
  stab := dcJ_stab _ _ _ _ _
  stabx := dcX_stab _ _ _ _ _
  lt := dcJ_lt _ _ _ _ _
  ltx := dcX_lt _ _ _ _ _
  call := by
    intro k O W hk hJ hG
    have hk' : k < DT.length := by rw [dyTell_len] at hk; exact hk
    rw [dyTell_get hk]
    have hO : ∀ b, O b → w.heap.size ≤ b := fun b hb => by
      rcases hG.new b hb with (h | h) | h
      · omega
      · omega
      · have := hB.size; omega
    have hBW : Below w.heap.size w W := hB.trans (hG.eff.below (by rintro b (h | h) <;> omega) hB.size)
    have hsz := hG.eff.size
    have not : ∀ {b}, b < W3.heap.size → b ≠ bf ∧ b ≠ bg → ¬ O b := fun h1 h2 h3 => by
      rcases hG.new _ h3 with (h | h) | h
      · exact h2.1 h
      · exact h2.2 h
      · omega
    refine .inl ⟨_, _, rfl, Go.Proofs.enters_of Try.func49 (by kernel_rfl) rfl, ?_⟩
    exact DA1_any w l a cap b3 b5 bf bg lo mo DT k _ O W hl hok (List.getElem?_eq_getElem hk') (hDT _ (List.getElem_mem hk')).1 (hDT _ (List.getElem_mem hk')).2 (by omega) hmo hJ (fun X hX => hs.below (hBW.trans (hX.below hO hBW.size)))
      ((hG.cell l3 (by rintro (h | h); exact n3.1 h; exact n3.2 h) 0).trans c3) ((hG.cell l5 (by rintro (h | h); exact n5.1 h; exact n5.2 h) 0).trans c5) (by omega) (by omega) (not l3 n3) (not l5 n5) hfg (by omega)
abbrev DkP (w w5 W : World) (a : Option Addr) (cap : Nat) (l : List Cl) : Prop := W.cell? ⟨w.heap.size, 0, none⟩ = some (.slice a l.length cap) ∧ Below w5.heap.size w5 W
theorem DkP.keep {w w5 W W' : World} {a : Option Addr} {cap : Nat} {l : List Cl} (hl : w.heap.size < w5.heap.size) (h : DkP w w5 W a cap l) (hb : Below W.heap.size W W') : DkP w w5 W' a cap l :=
  ⟨(hb.cell (p := ⟨w.heap.size, 0, none⟩) (Nat.lt_of_lt_of_le hl h.2.size)).trans h.1, h.2.trans (hb.mono h.2.size)⟩
set_option maxRecDepth 100000 in
set_option maxHeartbeats 6400000 in
theorem DayAll_walk (a : Option Addr) (cap : Nat) (l : List Cl) (x y : Int) (mo : Int) (w : World) (hl : l.length ≤ 9223372036854775807) (hlc : l.length ≤ cap) (hs : Sl w a (cls l)) (hok : ∀ c ∈ l, c.Ok) (hx : 0 ≤ x ∧ x ≤ 4294967295) (hy : 0 ≤ y ∧ y ≤ 4294967295) (hm : 0 ≤ mo ∧ mo ≤ 255) :
    Calls Try.prog 10 #[.slice a l.length cap, .agg #[.int .u32 x, .int .u32 y], .int .u8 mo] w fun e w' => e = .returned (.bool true) ∧ Below w.heap.size w w' := by
  obtain ⟨hx0, hx1⟩ := hx
  obtain ⟨hy0, hy1⟩ := hy
  obtain ⟨hm0, hm1⟩ := hm
  obtain ⟨mo, rfl⟩ := Int.eq_ofNat_of_zero_le hm0
  have cV := hid (fun W => Lives14_any W)
  have cF := hid (fun W => Few_any a cap l W hl)
  obtain ⟨W0, hW0⟩ : ∃ W, ((w.alloc (.cells #[.slice a l.length cap] 73)).alloc (.cells #[.int .u32 x, .int .u32 y] 78)).alloc (.cells #[.int .u8 (mo : Nat)] 5) = W := ⟨_, rfl⟩
  have z0 : W0.heap.size = w.heap.size + 3 := by rw [← hW0]; simp
  have b0 : Below w.heap.size w W0 := by rw [← hW0]; exact below_new (below_new (below_new (Below.refl _ _) (Nat.le_refl _)) (by simp)) (by simp; omega)
  have k3 : W0.cell? ⟨w.heap.size, 0, none⟩ = some (.slice a l.length cap) := by rw [← hW0]; simp [go_sem]
  have k4 : W0.cell? ⟨w.heap.size + 1, 0, none⟩ = some (.int .u32 x) := by rw [← hW0]; simp [go_sem]
  have k5 : W0.cell? ⟨w.heap.size + 1, 1, none⟩ = some (.int .u32 y) := by rw [← hW0]; simp [go_sem]
  have k6 : W0.cell? ⟨w.heap.size + 1 + 1, 0, none⟩ = some (.int .u8 (mo : Nat)) := by rw [← hW0]; simp [go_sem]
  have HW0 := hid hW0
  by_cases h8 : l.length ≤ 8
  rotate_left
  · rw [decide_eq_false h8] at cF
    have HB0 := hid b0
    clear hs hok h8 hW0 z0 b0
    go_enter Try.func10, Try.ntmps10
    go_upto_region 1 with fail
    rw [HW0.out]
    go_wp2_with ((refine (cF.out _).mono ?_); rintro e w' ⟨rfl, rfl⟩)
    refine (cV.out _).mono ?_
    rintro e w1 ⟨rfl, hB1⟩
    have HB1 := hid (HB0.out.trans (hB1.mono HB0.out.size))
    clear hB1
    go_wp2
    go_ret
    exact ⟨rfl, HB1.out⟩
  rw [decide_eq_true h8] at cF
  have hq0 : 0 ≤ x % 146097 := Int.emod_nonneg _ (by omega)
  have hq1 : x % 146097 < 146097 := Int.emod_lt_of_pos _ (by omega)
  have hr0 : 0 ≤ y % 2000 := Int.emod_nonneg _ (by omega)
  have hr1 : y % 2000 < 2000 := Int.emod_lt_of_pos _ (by omega)
  obtain ⟨T, hT⟩ : ∃ T, min 146096 (x % 146097 + y % 2000) = T := ⟨_, rfl⟩
  have T0 : x % 146097 ≤ T := by omega
  have T1 : T ≤ 146096 := by omega
  have T2 : T ≤ x % 146097 + y % 2000 := by omega
  have hT' : Hid (∀ v : Int, (v = 146096 ∨ v = x % 146097 + y % 2000) → v ≤ 146096 → v ≤ x % 146097 + y % 2000 → v = T) := fun v h1 h2 h3 => by omega
  have cD := hid (DAll_any (x % 146097) T a cap l W0 hl (hs.below b0) hok)
  have Hs := hid hs
  have Hok := hid hok
  have HB0 := hid b0
  have Z0 := hid z0
  clear hs hok h8 hW0 z0 b0 hT
  go_enter Try.func10, Try.ntmps10
  go_upto_region 1 with fail
  rw [HW0.out]
  go_wp2_with fail
  refine (cF.out _).mono ?_
  rintro e w' ⟨rfl, rfl⟩
  go_upto_region 4 with fail
  go_cut [8] from 23 to 29 (fun x8 wx => x8 = .int .i64 T ∧ W0 = wx)
  case first =>
    go_wp2
    all_goals
      go_meet
      exact ⟨congrArg (Value.int .i64) (hT'.out _ (by omega) (by omega) (by omega)), by trivial⟩
  case rest =>
    obtain ⟨rfl, rfl⟩ := hcut
    obtain ⟨f, hf⟩ : ∃ f, x % 146097 = f := ⟨_, rfl⟩
    have Hf := hid hf
    rw [hf] at cD hq0 hq1 T0 T2 ⊢
    clear hT' hf
    go_wp2_with fail
    refine cD.out.mono ?_
    rintro e w2 ⟨⟨v, rfl, b1, b2, b3, b4, b5, rfl, hS⟩, hB2⟩
    have hnil := fun (c : Array Value) W => run_eq_nilFunc (P := Try.prog) (t := 80) (f := .func 113) (a := #[]) (c := c) (w := W) ⟨_, _, _, Try.underlying80⟩
    obtain ⟨W3, hW3⟩ : ∃ W, (w2.alloc (.cells #[.slice none 0 0] 82)).alloc (.cells #[.bool true] 4) = W := ⟨_, rfl⟩
    have z3 : W3.heap.size = w2.heap.size + 2 := by rw [← hW3]; simp
    have b23 : Below w2.heap.size w2 W3 := by rw [← hW3]; exact below_new (below_new (Below.refl _ _) (Nat.le_refl _)) (by simp)
    have z0 := Z0.out
    have z2 := hB2.size
    have b03 : Below W0.heap.size W0 W3 := hB2.trans (b23.mono z2)
    have bw3 : Below w.heap.size w W3 := HB0.out.trans (b03.mono (by omega))
    have hD3 := hS.below b23
    have c3' := (b03.cell (p := ⟨w.heap.size, 0, none⟩) (by simp only []; omega)).trans k3
    have c5' := (b03.cell (p := ⟨w.heap.size + 1 + 1, 0, none⟩) (by simp only []; omega)).trans k6
    have hJ : DcJ (w2.heap.size + 1) w2.heap.size W3.heap.size (daysT l f T) mo 0 (fun b => b = w2.heap.size + 1 ∨ b = w2.heap.size) W3 := by
      refine ⟨by omega, by rw [← hW3]; simp [go_sem], by rw [← hW3]; simp [go_sem], ⟨.slice none 0 0, by rw [← hW3]; simp [go_sem], World.ownsRow_nil _ _ _ _, fun b hb => by simp [Value.ownBlock] at hb⟩, by rw [← hW3]; simp [go_sem], ⟨.inl rfl, .inr rfl⟩, fun b hb => by omega⟩
    have hlenT := daysT_len l f T
    have hCl := da_client w l a cap w.heap.size (w.heap.size + 1 + 1) (w2.heap.size + 1) w2.heap.size W3.heap.size mo (daysT l f T) W3 hl Hok.out (by omega) (fun n hn => by have := (daysT_mem.1 hn).1; omega) (by omega) Hs.out bw3 c3' c5' (by omega) (by omega) (by omega) (by omega) (by omega) (by omega) (by omega)
    have hIt := DayIter_any l f T _ _ b1 b2 b3 b4 b5 _ _ _ _ W3 hq0 (by omega) (by omega) T1 hCl hJ hD3 (fun b h1 h2 h => by omega)
    have HIt := hid hIt
    have HW3 := hid hW3
    have Bw3 := hid bw3
    have C3 := hid c3'
    have C5 := hid c5'
    have Z3 := hid z3
    have Z2 := hid z2
    clear k3 k4 k5 k6 hS hB2 hW3 z3 b23 z0 z2 b03 bw3 hD3 c3' c5' hJ hlenT hCl hIt
    go_upto_region 10 with fail
    rw [HW3.out]
    clear hnil
    go_wp2_with fail
    refine HIt.out.mono ?_
    rintro e w5 ⟨⟨v, rfl⟩, O', hsub, hnew, hE, hend⟩
    obtain ⟨DT, hDT⟩ : ∃ q, daysT l f T = q := ⟨_, rfl⟩
    have hfil : (daysL f T).filter (actB l) = DT := hDT
    have hDlen := daysT_len l f T
    rw [hDT] at hend hDlen
    have hG : ∃ m, m ≤ DT.length ∧ ((m = DT.length ∧ m ≤ mo) ∨ m = mo + 1) ∧ DcC (w2.heap.size + 1) w2.heap.size W3.heap.size DT m O' w5 := by
      rcases hend with ⟨h1, h2⟩ | ⟨k, k1, k2, h1, h2⟩
      · rw [dyTell_len] at h1 h2; exact ⟨DT.length, Nat.le_refl _, .inl ⟨rfl, h1⟩, h2⟩
      · rw [dyTell_len] at k2; exact ⟨k, k2, .inr h1, h2⟩
    obtain ⟨m, hm1', hm2', hC⟩ := hG
    obtain ⟨vg, g1, g2, -⟩ := hC.g
    obtain ⟨ag, capg, rfl, gs, -⟩ := owns_form g2
    have z0 := Z0.out
    have z2 := Z2.out
    have z3 := Z3.out
    have zE := hE.size
    have e3 := hid ((hE.cell (p := ⟨w.heap.size, 0, none⟩) (by simp only []; omega) (by simp only []; omega)).trans C3.out)
    have e5 := hid ((hE.cell (p := ⟨w.heap.size + 1 + 1, 0, none⟩) (by simp only []; omega) (by simp only []; omega)).trans C5.out)
    have eg := hid g1
    have ef := hid hC.f
    have Gs := hid gs
    have Bw5 := hid (Bw3.out.trans (hE.below (by rintro b (h | h) <;> omega) Bw3.out.size))
    have L3 : w.heap.size < w5.heap.size := by omega
    have L5 : w.heap.size + 1 + 1 < w5.heap.size := by omega
    have Lg : w2.heap.size < w5.heap.size := by omega
    have Lf : w2.heap.size + 1 < w5.heap.size := by omega
    obtain ⟨bg, hbg⟩ : ∃ b, w2.heap.size = b := ⟨_, rfl⟩
    rw [hbg] at eg ef Lg Lf ⊢
    have Hfil := hid hfil
    have hml : m ≤ 146097 := by omega
    have hall : Hid (cntD l (daysL f T) (daysL f T).length = DT.length) := cntD_all hfil
    have hLen : Hid ((daysL f T).length = (T - f + 1).toNat) := daysL_len f T
    obtain ⟨N, hN⟩ : ∃ N, (daysL f T).length = N := ⟨_, rfl⟩
    rw [hN] at hall hLen
    have HN := hid hN
    have hNI : (N : Int) = T - f + 1 := by have := hLen.out; omega
    have Hm2 := hid hm2'
    have cA := hid (fun n h0 h1 W h => RActive_any a cap l n W hl h Hok.out h0 h1)
    clear hsub hnew hE hend hDT hfil hDlen hC g1 g2 gs z0 z2 z3 zE hbg hN HIt C3 C5 Z0 Z2 Z3 hm2'
    go_upto_region 13 with fail
    go_wp2_with fail
    go_loopw [12, 13] (fun k d wr => ∃ (j i : Nat), k = .int .i64 j ∧ d = .int .i64 (f + i) ∧ i ≤ N ∧ j ≤ m ∧ Hid (j = cntD l (daysL f T) i) ∧ Hid (Below w5.heap.size w5 wr)) (fun _ d _ => (T + 1 - intOf d).toNat)
    case atStart => exact ⟨0, 0, rfl, by simp, by omega, by omega, rfl, Below.refl _ _⟩
    case round =>
      obtain ⟨j, i, rfl, rfl, hi, hj, hcnt, HB⟩ := hrel
      have r3 := (HB.out.cell (p := ⟨w.heap.size, 0, none⟩) L3).trans e3.out
      have rg := (HB.out.cell (p := ⟨bg, 0, none⟩) Lg).trans eg.out
      have rf := (HB.out.cell (p := ⟨bg + 1, 0, none⟩) Lf).trans ef.out
      have r5 := (HB.out.cell (p := ⟨w.heap.size + 1 + 1, 0, none⟩) L5).trans e5.out
      by_cases hlt : i < N
      · have hltI : f + (i : Int) ≤ T := by omega
        by_cases hjm : j < m
        · have n0 : 0 ≤ f + (i : Int) := by omega
          have n1 : f + (i : Int) < 146097 := by omega
          have hsn := hid (cntD_snoc (cs := l) (l := daysL f T) (k := i) (n := f + (i : Int)) (by rw [List.getElem?_eq_getElem (by rw [HN.out]; exact hlt), daysL_get]))
          have cA1 := hid (fun W h => cA.out (f + (i : Int)) n0 n1 W h)
          have cS1 := hid (fun W => RShape_any (f + (i : Int)) W n0 n1)
          have hB : Hid (actB l (f + (i : Int)) = decide (actM l (f + (i : Int)) ≠ 0)) := by show _ = _; rfl
          have hMl := actM_lt l (f + (i : Int))
          obtain ⟨M, hM⟩ : ∃ M, actM l (f + (i : Int)) = M := ⟨_, rfl⟩
          rw [hM] at cA1 hB hMl
          rw [← shq_shF] at cA1 cS1
          obtain ⟨s, hs⟩ : ∃ s, shF (f + (i : Int)) = s := ⟨_, rfl⟩
          rw [hs] at cA1 cS1
          rw [shq] at cA1 cS1
          clear hM hs
          have HD : Hid (DkP w w5 wr.drew a cap l) := by
            have hd : Below w5.heap.size w5 wr.drew := HB.out.drew
            exact ⟨(hd.cell (p := ⟨w.heap.size, 0, none⟩) L3).trans e3.out, hd⟩
          have hS1 : Hid (∀ W, DkP w w5 W a cap l → Calls Try.prog 35 #[.int .i64 (f + (i : Int))] W fun e w' => e = .returned (.agg #[.int .i64 (s 0), .int .i64 (s 1), .int .i64 (s 2), .int .i64 (s 3), .int .i64 (s 4), .int .i64 (s 5), .int .i64 (s 6), .int .i64 (s 7), .int .i64 (s 8), .int .i64 (s 9)]) ∧ DkP w w5 w' a cap l) := fun W h => (cS1.out W).mono fun e w' ⟨he, hb⟩ => ⟨he, DkP.keep L3 h hb⟩
          have hA1 : Hid (∀ W, DkP w w5 W a cap l → Calls Try.prog 50 #[.slice a l.length cap, .agg #[.int .i64 (s 0), .int .i64 (s 1), .int .i64 (s 2), .int .i64 (s 3), .int .i64 (s 4), .int .i64 (s 5), .int .i64 (s 6), .int .i64 (s 7), .int .i64 (s 8), .int .i64 (s 9)]] W fun e w' => e = .returned (.int .u64 (M : Nat)) ∧ DkP w w5 w' a cap l) := fun W h => (cA1.out W (Hs.out.below (Bw5.out.trans (h.2.mono Bw5.out.size)))).mono fun e w' ⟨he, hb⟩ => ⟨he, DkP.keep L3 h hb⟩
          go_upto_region 15 with fail
          clear r3 rg rf r5
          refine wp_region_held_drew (S := fun W => DkP w w5 W a cap l) (by kernel_rfl) HD.out (fun hHeld => ?_)
          refine wpAnyH_take (i := 0) (v := ?_) rfl (by kernel_rfl) (by kernel_rfl) (by kernel_rfl) (fun _ _ _ h => h) (Or.inl ⟨by rfl, ?_⟩) (by assumption) ?_
          rotate_left
          · intro w hSw; go_simp; (try with_reducible rfl)
          (try simp only [Act.put, List.getElem_toArray, List.getElem_cons_zero, List.setIfInBounds_toArray, List.set_cons_zero, List.set_cons_succ])
          refine wpAnyH_take (i := 1) (v := ?_) rfl (by kernel_rfl) (by kernel_rfl) (by kernel_rfl) (fun _ _ _ h => h) (Or.inl ⟨by rfl, ?_⟩) (by assumption) ?_
          rotate_left
          · intro w hSw; go_simp; (try with_reducible rfl)
          (try simp only [Act.put, List.getElem_toArray, List.getElem_cons_succ, List.getElem_cons_zero, List.setIfInBounds_toArray, List.set_cons_zero, List.set_cons_succ])
          refine wpAnyH_ready (rs := [2]) (by kernel_rfl) (by simp) ?_
          refine AllReadyH.cons rfl (fun K hK => ?_) AllReadyH.nil
          go_simp
          refine (hS1.out _ (by assumption)).mono ?_; rintro e w6 ⟨rfl, hS⟩
          (try go_wp2_with fail)
          refine hK.out _ _ (by assumption) (fun hHeld => ?_)
          clear hK K
          (try simp only [Act.put, List.getElem_toArray, List.getElem_cons_succ, List.getElem_cons_zero, List.setIfInBounds_toArray, List.set_cons_zero, List.set_cons_succ])
          refine wpAnyH_ready (rs := [3]) (by kernel_rfl) (by simp) ?_
          refine AllReadyH.cons rfl (fun K hK => ?_) AllReadyH.nil
          go_simp
          refine (hA1.out _ (by assumption)).mono ?_; rintro e w7 ⟨rfl, hS⟩
          (try go_wp2_with fail)
          refine hK.out _ _ (by assumption) (fun hHeld => ?_)
          clear hK K
          (try simp only [Act.put, List.getElem_toArray, List.getElem_cons_succ, List.getElem_cons_zero, List.setIfInBounds_toArray, List.set_cons_zero, List.set_cons_succ])
          by_cases hz : M = 0
          · have cb : ((M : Int) != 0) = false := by rw [hz]; rfl
            refine wpAnyH_take (i := 4) (v := ?_) rfl (by kernel_rfl) (by kernel_rfl) (by kernel_rfl) (fun _ _ _ h => h) (Or.inl ⟨by rfl, ?_⟩) (by assumption) ?_
            rotate_left
            · intro w hSw; go_simp; (try with_reducible rfl)
            (try simp only [Act.put, List.getElem_toArray, List.getElem_cons_succ, List.getElem_cons_zero, List.setIfInBounds_toArray, List.set_cons_zero, List.set_cons_succ])
            refine wpAnyH_done (by kernel_rfl) ?_ _
            have HV := hid (‹DkP w w5 _ a cap l›).2
            clear hHeld
            have hno : Hid (j = cntD l (daysL f T) (i + 1)) := by show _ = _; rw [hsn.out, hB.out, hz, ← hcnt.out]; rfl
            clear hz
            go_wp2
            exact ⟨⟨j, i + 1, rfl, by go_num, by omega, by omega, hno, HV⟩, by simp [intOf]; omega⟩
          · have cb : ((M : Int) != 0) = true := by simpa using hz
            have hyes : Hid (j + 1 = cntD l (daysL f T) (i + 1)) := by show _ = _; rw [hsn.out, hB.out, ← hcnt.out]; simp [hz]
            have hidx := filter_idx (actB l) (daysL f T) i (by rw [HN.out]; exact hlt) (by rw [daysL_get, hB.out]; simpa using hz)
            rw [Hfil.out, daysL_get, show (List.take i (daysL f T)).countP (actB l) = j from hcnt.out.symm] at hidx
            obtain ⟨hq1', hq2'⟩ := List.getElem?_eq_some_iff.1 hidx
            obtain ⟨bs, os, rfl, lbs, cbs⟩ := Gs.out.atSh (k := j) (by rw [List.length_take]; omega)
            rw [List.getElem_take, hq2'] at cbs
            clear hz hidx hq2'
            refine wpAnyH_take (i := 4) (v := ?_) rfl (by kernel_rfl) (by kernel_rfl) (by kernel_rfl) (fun _ _ _ h => h) (Or.inl ⟨by rfl, ?_⟩) (by assumption) ?_
            rotate_left
            · intro w hSw; go_simp; (try with_reducible rfl)
            (try simp only [Act.put, List.getElem_toArray, List.getElem_cons_succ, List.getElem_cons_zero, List.setIfInBounds_toArray, List.set_cons_zero, List.set_cons_succ])
            refine wpAnyH_done (by kernel_rfl) ?_ _
            have HV := hid (‹DkP w w5 _ a cap l›).2
            clear hHeld
            have rg := (HV.out.cell (p := ⟨bg, 0, none⟩) Lg).trans eg.out
            have rs := (HV.out.cell (p := ⟨bs, os + j * 10, none⟩) lbs).trans cbs
            have hjI : (j : Int) < m := by omega
            clear cbs
            go_wp2
            exact ⟨⟨j + 1, i + 1, by go_num, by go_num, by omega, by omega, hyes, HV⟩, by simp [intOf]; omega⟩
        · obtain rfl : j = m := by omega
          clear hcnt
          by_cases hbig : mo < j
          · have hbI : (mo : Int) < j := by omega
            go_wp2_with fail
            refine (cV.out _).mono ?_
            rintro e w9 ⟨rfl, hB9⟩
            have HB9 := hid (Bw5.out.trans ((HB.out.trans (hB9.mono HB.out.size)).mono Bw5.out.size))
            clear hB9
            go_wp2
            go_ret
            exact ⟨rfl, HB9.out⟩
          · have hbI : ¬ (mo : Int) < j := by omega
            have hjD : j = DT.length := by rcases Hm2.out with h | h; exact h.1; omega
            have HjD := hid hjD
            clear hjD
            go_upto_region 24 with fail
            go_wp2_with fail
            go_loopw [12, 14] (fun k d wr => ∃ (c i : Nat), k = .int .i64 ((j : Int) - c) ∧ d = .int .i64 (f + i) ∧ i ≤ N ∧ c ≤ 146097 ∧ Hid (c = cntD l (daysL f T) i) ∧ Hid (Below w5.heap.size w5 wr)) (fun _ d _ => (T + 1 - intOf d).toNat)
            case atStart => exact ⟨0, 0, by simp, by simp, by omega, by omega, rfl, HB⟩
            case round =>
              obtain ⟨c, i, rfl, rfl, hi, hc, hcnt, HB⟩ := hrel
              have r3 := (HB.out.cell (p := ⟨w.heap.size, 0, none⟩) L3).trans e3.out
              have rg : True := trivial
              have rf : True := trivial
              have r5 : True := trivial
              by_cases hlt : i < N
              · have hltI : f + (i : Int) ≤ T := by omega
                have n0 : 0 ≤ f + (i : Int) := by omega
                have n1 : f + (i : Int) < 146097 := by omega
                have hsn := hid (cntD_snoc (cs := l) (l := daysL f T) (k := i) (n := f + (i : Int)) (by rw [List.getElem?_eq_getElem (by rw [HN.out]; exact hlt), daysL_get]))
                have cA1 := hid (fun W h => cA.out (f + (i : Int)) n0 n1 W h)
                have cS1 := hid (fun W => RShape_any (f + (i : Int)) W n0 n1)
                have hB : Hid (actB l (f + (i : Int)) = decide (actM l (f + (i : Int)) ≠ 0)) := by show _ = _; rfl
                have hMl := actM_lt l (f + (i : Int))
                obtain ⟨M, hM⟩ : ∃ M, actM l (f + (i : Int)) = M := ⟨_, rfl⟩
                rw [hM] at cA1 hB hMl
                rw [← shq_shF] at cA1 cS1
                obtain ⟨s, hs⟩ : ∃ s, shF (f + (i : Int)) = s := ⟨_, rfl⟩
                rw [hs] at cA1 cS1
                rw [shq] at cA1 cS1
                clear hM hs
                have HD : Hid (DkP w w5 wr.drew a cap l) := by
                  have hd : Below w5.heap.size w5 wr.drew := HB.out.drew
                  exact ⟨(hd.cell (p := ⟨w.heap.size, 0, none⟩) L3).trans e3.out, hd⟩
                have hS1 : Hid (∀ W, DkP w w5 W a cap l → Calls Try.prog 35 #[.int .i64 (f + (i : Int))] W fun e w' => e = .returned (.agg #[.int .i64 (s 0), .int .i64 (s 1), .int .i64 (s 2), .int .i64 (s 3), .int .i64 (s 4), .int .i64 (s 5), .int .i64 (s 6), .int .i64 (s 7), .int .i64 (s 8), .int .i64 (s 9)]) ∧ DkP w w5 w' a cap l) := fun W h => (cS1.out W).mono fun e w' ⟨he, hb⟩ => ⟨he, DkP.keep L3 h hb⟩
                have hA1 : Hid (∀ W, DkP w w5 W a cap l → Calls Try.prog 50 #[.slice a l.length cap, .agg #[.int .i64 (s 0), .int .i64 (s 1), .int .i64 (s 2), .int .i64 (s 3), .int .i64 (s 4), .int .i64 (s 5), .int .i64 (s 6), .int .i64 (s 7), .int .i64 (s 8), .int .i64 (s 9)]] W fun e w' => e = .returned (.int .u64 (M : Nat)) ∧ DkP w w5 w' a cap l) := fun W h => (cA1.out W (Hs.out.below (Bw5.out.trans (h.2.mono Bw5.out.size)))).mono fun e w' ⟨he, hb⟩ => ⟨he, DkP.keep L3 h hb⟩
                go_upto_region 26 with fail
                clear r3 rg rf r5
                refine wp_region_held_drew (S := fun W => DkP w w5 W a cap l) (by kernel_rfl) HD.out (fun hHeld => ?_)
                refine wpAnyH_take (i := 0) (v := ?_) rfl (by kernel_rfl) (by kernel_rfl) (by kernel_rfl) (fun _ _ _ h => h) (Or.inl ⟨by rfl, ?_⟩) (by assumption) ?_
                rotate_left
                · intro w hSw; go_simp; (try with_reducible rfl)
                (try simp only [Act.put, List.getElem_toArray, List.getElem_cons_zero, List.setIfInBounds_toArray, List.set_cons_zero, List.set_cons_succ])
                refine wpAnyH_take (i := 1) (v := ?_) rfl (by kernel_rfl) (by kernel_rfl) (by kernel_rfl) (fun _ _ _ h => h) (Or.inl ⟨by rfl, ?_⟩) (by assumption) ?_
                rotate_left
                · intro w hSw; go_simp; (try with_reducible rfl)
                (try simp only [Act.put, List.getElem_toArray, List.getElem_cons_succ, List.getElem_cons_zero, List.setIfInBounds_toArray, List.set_cons_zero, List.set_cons_succ])
                refine wpAnyH_ready (rs := [2]) (by kernel_rfl) (by simp) ?_
                refine AllReadyH.cons rfl (fun K hK => ?_) AllReadyH.nil
                go_simp
                refine (hS1.out _ (by assumption)).mono ?_; rintro e w6 ⟨rfl, hS⟩
                (try go_wp2_with fail)
                refine hK.out _ _ (by assumption) (fun hHeld => ?_)
                clear hK K
                (try simp only [Act.put, List.getElem_toArray, List.getElem_cons_succ, List.getElem_cons_zero, List.setIfInBounds_toArray, List.set_cons_zero, List.set_cons_succ])
                refine wpAnyH_ready (rs := [3]) (by kernel_rfl) (by simp) ?_
                refine AllReadyH.cons rfl (fun K hK => ?_) AllReadyH.nil
                go_simp
                refine (hA1.out _ (by assumption)).mono ?_; rintro e w7 ⟨rfl, hS⟩
                (try go_wp2_with fail)
                refine hK.out _ _ (by assumption) (fun hHeld => ?_)
                clear hK K
                (try simp only [Act.put, List.getElem_toArray, List.getElem_cons_succ, List.getElem_cons_zero, List.setIfInBounds_toArray, List.set_cons_zero, List.set_cons_succ])
                by_cases hz : M = 0
                · have cb : ((M : Int) != 0) = false := by rw [hz]; rfl
                  refine wpAnyH_take (i := 4) (v := ?_) rfl (by kernel_rfl) (by kernel_rfl) (by kernel_rfl) (fun _ _ _ h => h) (Or.inl ⟨by rfl, ?_⟩) (by assumption) ?_
                  rotate_left
                  · intro w hSw; go_simp; (try with_reducible rfl)
                  (try simp only [Act.put, List.getElem_toArray, List.getElem_cons_succ, List.getElem_cons_zero, List.setIfInBounds_toArray, List.set_cons_zero, List.set_cons_succ])
                  refine wpAnyH_done (by kernel_rfl) ?_ _
                  have HV := hid (‹DkP w w5 _ a cap l›).2
                  clear hHeld
                  have hno : Hid (c = cntD l (daysL f T) (i + 1)) := by show _ = _; rw [hsn.out, hB.out, hz, ← hcnt.out]; rfl
                  clear hz
                  go_wp2
                  exact ⟨⟨c, i + 1, rfl, by go_num, by omega, by omega, hno, HV⟩, by simp [intOf]; omega⟩
                · have cb : ((M : Int) != 0) = true := by simpa using hz
                  have hyes : Hid (c + 1 = cntD l (daysL f T) (i + 1)) := by show _ = _; rw [hsn.out, hB.out, ← hcnt.out]; simp [hz]
                  have hcle : c + 1 ≤ 146097 := by
                    have h1 := hyes.out
                    have h2 : cntD l (daysL f T) (i + 1) ≤ ((daysL f T).take (i + 1)).length := List.countP_le_length
                    rw [List.length_take] at h2; omega
                  clear hz
                  refine wpAnyH_take (i := 4) (v := ?_) rfl (by kernel_rfl) (by kernel_rfl) (by kernel_rfl) (fun _ _ _ h => h) (Or.inl ⟨by rfl, ?_⟩) (by assumption) ?_
                  rotate_left
                  · intro w hSw; go_simp; (try with_reducible rfl)
                  (try simp only [Act.put, List.getElem_toArray, List.getElem_cons_succ, List.getElem_cons_zero, List.setIfInBounds_toArray, List.set_cons_zero, List.set_cons_succ])
                  refine wpAnyH_done (by kernel_rfl) ?_ _
                  have HV := hid (‹DkP w w5 _ a cap l›).2
                  clear hHeld
                  go_wp2
                  exact ⟨⟨c + 1, i + 1, by go_num, by go_num, by omega, hcle, hyes, HV⟩, by simp [intOf]; omega⟩
              · have hltI : ¬ f + (i : Int) ≤ T := by omega
                obtain rfl : i = N := by omega
                have hcj : c = j := by rw [hcnt.out, hall.out, HjD.out]
                have hz : ((j : Int) - c) = 0 := by omega
                rw [hz]
                clear hz hcj hcnt
                go_wp2_with fail
                refine (cV.out _).mono ?_
                rintro e w9 ⟨rfl, hB9⟩
                have HB9 := hid (Bw5.out.trans ((HB.out.trans (hB9.mono HB.out.size)).mono Bw5.out.size))
                clear hB9
                go_wp2
                go_ret
                exact ⟨rfl, HB9.out⟩
      · have hltI : ¬ f + (i : Int) ≤ T := by omega
        obtain rfl : j = m := by
          have h1 := hcnt.out
          obtain rfl : i = N := by omega
          have h2 := hall.out
          omega
        clear hcnt
        by_cases hbig : mo < j
        · have hbI : (mo : Int) < j := by omega
          go_wp2_with fail
          refine (cV.out _).mono ?_
          rintro e w9 ⟨rfl, hB9⟩
          have HB9 := hid (Bw5.out.trans ((HB.out.trans (hB9.mono HB.out.size)).mono Bw5.out.size))
          clear hB9
          go_wp2
          go_ret
          exact ⟨rfl, HB9.out⟩
        · have hbI : ¬ (mo : Int) < j := by omega
          have hjD : j = DT.length := by rcases Hm2.out with h | h; exact h.1; omega
          have HjD := hid hjD
          clear hjD
          go_upto_region 24 with fail
          go_wp2_with fail
          go_loopw [12, 14] (fun k d wr => ∃ (c i : Nat), k = .int .i64 ((j : Int) - c) ∧ d = .int .i64 (f + i) ∧ i ≤ N ∧ c ≤ 146097 ∧ Hid (c = cntD l (daysL f T) i) ∧ Hid (Below w5.heap.size w5 wr)) (fun _ d _ => (T + 1 - intOf d).toNat)
          case atStart => exact ⟨0, 0, by simp, by simp, by omega, by omega, rfl, HB⟩
          case round =>
            obtain ⟨c, i, rfl, rfl, hi, hc, hcnt, HB⟩ := hrel
            have r3 := (HB.out.cell (p := ⟨w.heap.size, 0, none⟩) L3).trans e3.out
            have rg : True := trivial
            have rf : True := trivial
            have r5 : True := trivial
            by_cases hlt : i < N
            · have hltI : f + (i : Int) ≤ T := by omega
              have n0 : 0 ≤ f + (i : Int) := by omega
              have n1 : f + (i : Int) < 146097 := by omega
              have hsn := hid (cntD_snoc (cs := l) (l := daysL f T) (k := i) (n := f + (i : Int)) (by rw [List.getElem?_eq_getElem (by rw [HN.out]; exact hlt), daysL_get]))
              have cA1 := hid (fun W h => cA.out (f + (i : Int)) n0 n1 W h)
              have cS1 := hid (fun W => RShape_any (f + (i : Int)) W n0 n1)
              have hB : Hid (actB l (f + (i : Int)) = decide (actM l (f + (i : Int)) ≠ 0)) := by show _ = _; rfl
              have hMl := actM_lt l (f + (i : Int))
              obtain ⟨M, hM⟩ : ∃ M, actM l (f + (i : Int)) = M := ⟨_, rfl⟩
              rw [hM] at cA1 hB hMl
              rw [← shq_shF] at cA1 cS1
              obtain ⟨s, hs⟩ : ∃ s, shF (f + (i : Int)) = s := ⟨_, rfl⟩
              rw [hs] at cA1 cS1
              rw [shq] at cA1 cS1
              clear hM hs
              have HD : Hid (DkP w w5 wr.drew a cap l) := by
                have hd : Below w5.heap.size w5 wr.drew := HB.out.drew
                exact ⟨(hd.cell (p := ⟨w.heap.size, 0, none⟩) L3).trans e3.out, hd⟩
              have hS1 : Hid (∀ W, DkP w w5 W a cap l → Calls Try.prog 35 #[.int .i64 (f + (i : Int))] W fun e w' => e = .returned (.agg #[.int .i64 (s 0), .int .i64 (s 1), .int .i64 (s 2), .int .i64 (s 3), .int .i64 (s 4), .int .i64 (s 5), .int .i64 (s 6), .int .i64 (s 7), .int .i64 (s 8), .int .i64 (s 9)]) ∧ DkP w w5 w' a cap l) := fun W h => (cS1.out W).mono fun e w' ⟨he, hb⟩ => ⟨he, DkP.keep L3 h hb⟩
              have hA1 : Hid (∀ W, DkP w w5 W a cap l → Calls Try.prog 50 #[.slice a l.length cap, .agg #[.int .i64 (s 0), .int .i64 (s 1), .int .i64 (s 2), .int .i64 (s 3), .int .i64 (s 4), .int .i64 (s 5), .int .i64 (s 6), .int .i64 (s 7), .int .i64 (s 8), .int .i64 (s 9)]] W fun e w' => e = .returned (.int .u64 (M : Nat)) ∧ DkP w w5 w' a cap l) := fun W h => (cA1.out W (Hs.out.below (Bw5.out.trans (h.2.mono Bw5.out.size)))).mono fun e w' ⟨he, hb⟩ => ⟨he, DkP.keep L3 h hb⟩
              go_upto_region 26 with fail
              clear r3 rg rf r5
              refine wp_region_held_drew (S := fun W => DkP w w5 W a cap l) (by kernel_rfl) HD.out (fun hHeld => ?_)
              refine wpAnyH_take (i := 0) (v := ?_) rfl (by kernel_rfl) (by kernel_rfl) (by kernel_rfl) (fun _ _ _ h => h) (Or.inl ⟨by rfl, ?_⟩) (by assumption) ?_
              rotate_left
              · intro w hSw; go_simp; (try with_reducible rfl)
              (try simp only [Act.put, List.getElem_toArray, List.getElem_cons_zero, List.setIfInBounds_toArray, List.set_cons_zero, List.set_cons_succ])
              refine wpAnyH_take (i := 1) (v := ?_) rfl (by kernel_rfl) (by kernel_rfl) (by kernel_rfl) (fun _ _ _ h => h) (Or.inl ⟨by rfl, ?_⟩) (by assumption) ?_
              rotate_left
              · intro w hSw; go_simp; (try with_reducible rfl)
              (try simp only [Act.put, List.getElem_toArray, List.getElem_cons_succ, List.getElem_cons_zero, List.setIfInBounds_toArray, List.set_cons_zero, List.set_cons_succ])
              refine wpAnyH_ready (rs := [2]) (by kernel_rfl) (by simp) ?_
              refine AllReadyH.cons rfl (fun K hK => ?_) AllReadyH.nil
              go_simp
              refine (hS1.out _ (by assumption)).mono ?_; rintro e w6 ⟨rfl, hS⟩
              (try go_wp2_with fail)
              refine hK.out _ _ (by assumption) (fun hHeld => ?_)
              clear hK K
              (try simp only [Act.put, List.getElem_toArray, List.getElem_cons_succ, List.getElem_cons_zero, List.setIfInBounds_toArray, List.set_cons_zero, List.set_cons_succ])
              refine wpAnyH_ready (rs := [3]) (by kernel_rfl) (by simp) ?_
              refine AllReadyH.cons rfl (fun K hK => ?_) AllReadyH.nil
              go_simp
              refine (hA1.out _ (by assumption)).mono ?_; rintro e w7 ⟨rfl, hS⟩
              (try go_wp2_with fail)
              refine hK.out _ _ (by assumption) (fun hHeld => ?_)
              clear hK K
              (try simp only [Act.put, List.getElem_toArray, List.getElem_cons_succ, List.getElem_cons_zero, List.setIfInBounds_toArray, List.set_cons_zero, List.set_cons_succ])
              by_cases hz : M = 0
              · have cb : ((M : Int) != 0) = false := by rw [hz]; rfl
                refine wpAnyH_take (i := 4) (v := ?_) rfl (by kernel_rfl) (by kernel_rfl) (by kernel_rfl) (fun _ _ _ h => h) (Or.inl ⟨by rfl, ?_⟩) (by assumption) ?_
                rotate_left
                · intro w hSw; go_simp; (try with_reducible rfl)
                (try simp only [Act.put, List.getElem_toArray, List.getElem_cons_succ, List.getElem_cons_zero, List.setIfInBounds_toArray, List.set_cons_zero, List.set_cons_succ])
                refine wpAnyH_done (by kernel_rfl) ?_ _
                have HV := hid (‹DkP w w5 _ a cap l›).2
                clear hHeld
                have hno : Hid (c = cntD l (daysL f T) (i + 1)) := by show _ = _; rw [hsn.out, hB.out, hz, ← hcnt.out]; rfl
                clear hz
                go_wp2
                exact ⟨⟨c, i + 1, rfl, by go_num, by omega, by omega, hno, HV⟩, by simp [intOf]; omega⟩
              · have cb : ((M : Int) != 0) = true := by simpa using hz
                have hyes : Hid (c + 1 = cntD l (daysL f T) (i + 1)) := by show _ = _; rw [hsn.out, hB.out, ← hcnt.out]; simp [hz]
                have hcle : c + 1 ≤ 146097 := by
                  have h1 := hyes.out
                  have h2 : cntD l (daysL f T) (i + 1) ≤ ((daysL f T).take (i + 1)).length := List.countP_le_length
                  rw [List.length_take] at h2; omega
                clear hz
                refine wpAnyH_take (i := 4) (v := ?_) rfl (by kernel_rfl) (by kernel_rfl) (by kernel_rfl) (fun _ _ _ h => h) (Or.inl ⟨by rfl, ?_⟩) (by assumption) ?_
                rotate_left
                · intro w hSw; go_simp; (try with_reducible rfl)
                (try simp only [Act.put, List.getElem_toArray, List.getElem_cons_succ, List.getElem_cons_zero, List.setIfInBounds_toArray, List.set_cons_zero, List.set_cons_succ])
                refine wpAnyH_done (by kernel_rfl) ?_ _
                have HV := hid (‹DkP w w5 _ a cap l›).2
                clear hHeld
                go_wp2
                exact ⟨⟨c + 1, i + 1, by go_num, by go_num, by omega, hcle, hyes, HV⟩, by simp [intOf]; omega⟩
            · have hltI : ¬ f + (i : Int) ≤ T := by omega
              obtain rfl : i = N := by omega
              have hcj : c = j := by rw [hcnt.out, hall.out, HjD.out]
              have hz : ((j : Int) - c) = 0 := by omega
              rw [hz]
              clear hz hcj hcnt
              go_wp2_with fail
              refine (cV.out _).mono ?_
              rintro e w9 ⟨rfl, hB9⟩
              have HB9 := hid (Bw5.out.trans ((HB.out.trans (hB9.mono HB.out.size)).mono Bw5.out.size))
              clear hB9
              go_wp2
              go_ret
              exact ⟨rfl, HB9.out⟩
end Go.Proofs.Ytndfckpcbiecnaa

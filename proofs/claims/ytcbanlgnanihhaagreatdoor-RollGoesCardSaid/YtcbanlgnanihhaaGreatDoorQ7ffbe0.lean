/-
  ferialaw18.RollGoes answers true for every clauses, days and way.
-/
import Derived.Test.YtcbanlgnanihhaaGreatDoorQ531f55
import Derived.Test.YtcbanlgnanihhaaGreatDoorQa72c12
import Derived.BigRegion
namespace Go.Proofs.YtcbanlgnanihhaaGreatDoor
open Go.RowKit Go.Maps
set_option linter.unusedVariables false

/-- the callback's state: k days have come -/
def GoJ (bf bg base : Nat) (xs : List Int) : OwnF := fun k O _ W => CollK bg base xs k O W ∧ W.cell? ⟨bf, 0, none⟩ = some (.bool true) ∧ W.frozen? ⟨bf, 0, none⟩ = false ∧ O bf
theorem goJ_stab (bf bg base : Nat) (xs : List Int) (M : Blk) : StabF M (GoJ bf bg base xs) := fun k O F F' W W' ⟨h1, h2, h3, h4⟩ hs hF hO =>
  ⟨h1.stab hs (fun b hb => hO b (.inl hb)), (World.cell?_of_block (w := W) (a := ⟨bf, 0, none⟩) (hO bf (.inl h4))).trans h2, (World.frozen?_of_block (w := W) (a := ⟨bf, 0, none⟩) (hO bf (.inl h4))).trans h3, h4⟩
theorem goJ_lt (bf bg base : Nat) (xs : List Int) : LtF (GoJ bf bg base xs) := fun k O F W h => h.1.lt
theorem goes1_enters (args : Array Value) (w : World) : (callFunc 63 args).run Tryz.prog w = .ok (.enter 63 args) w := by simp [go_sem]
theorem goes_client {l : List Cl} {a : Option Addr} {cap b5 bt bl bf bg base : Nat} {fr tt : Int} {xs : List Int} {M : Blk} {W0 : World} (hl : l.length ≤ 1000) (hok : ∀ c ∈ l, c.Ok) (hx : xs.length ≤ 100000)
    (hxs : ∀ n ∈ xs, fr ≤ n ∧ n ≤ tt ∧ anyQ (dayQ l n) = true) (hs : cls l = [] ∨ ∃ b off, a = some ⟨b, off, none⟩ ∧ b < W0.heap.size ∧ (b ≠ bf ∧ b ≠ bg ∧ ¬ M b) ∧ ∀ j (h : j < (cls l).length), W0.cell? ⟨b, off + j, none⟩ = some (cls l)[j]) (c5 : W0.cell? ⟨b5, 0, none⟩ = some (.int .i64 fr)) (ct : W0.cell? ⟨bt, 0, none⟩ = some (.int .i64 tt)) (cl : W0.cell? ⟨bl, 0, none⟩ = some (.slice a l.length cap))
    (l5 : b5 < W0.heap.size) (lt : bt < W0.heap.size) (ll : bl < W0.heap.size) (n5 : b5 ≠ bf ∧ b5 ≠ bg ∧ ¬ M b5) (nt : bt ≠ bf ∧ bt ≠ bg ∧ ¬ M bt) (nl : bl ≠ bf ∧ bl ≠ bg ∧ ¬ M bl) (hfg : bf ≠ bg) (hfb : bf < base) :
    ClientH Tryz.prog (.func (.func 63) #[] #[.pointer (some ⟨bf, 0, none⟩), .pointer (some ⟨b5, 0, none⟩), .pointer (some ⟨bt, 0, none⟩), .pointer (some ⟨bl, 0, none⟩), .pointer (some ⟨bg, 0, none⟩)]) xs.length (VRoll l M xs) M (GoJ bf bg base xs) (fun _ _ _ _ => False) (fun b => b = bf ∨ b = bg) W0 where
  form := ⟨_, _, _, rfl⟩
  stab := goJ_stab bf bg base xs M
  stabx := fun _ _ _ _ _ _ h => h.elim
  lt := goJ_lt bf bg base xs
  ltx := fun _ _ _ _ h => h.elim
  call := by
    rintro k O F W vs hk ⟨hJ, hf, hff, hOf⟩ hFO ⟨n, d, hn, h0, h1, rfl, hd, ⟨hT, hTF, hTM⟩, hFlt⟩ hG
    have hmem := hxs n (List.mem_of_getElem? hn)
    have no : ∀ b, b < W0.heap.size → b ≠ bf ∧ b ≠ bg ∧ ¬ M b → W.heap[b]? = W0.heap[b]? := fun b hb h => hG.eff.block b hb (fun h' => by
      rcases h' with (h' | h') | h'
      · exact h.1 h'
      · exact h.2.1 h'
      · exact h.2.2 h')
    have cc : ∀ b, b < W0.heap.size → b ≠ bf ∧ b ≠ bg ∧ ¬ M b → W.cell? ⟨b, 0, none⟩ = W0.cell? ⟨b, 0, none⟩ := fun b hb h => World.cell?_of_block (w := W0) (a := ⟨b, 0, none⟩) (no b hb h)
    have hsz := hG.eff.size
    have hsW : ∀ X, Eff (fun b => b = bf) W X → Sl X a (cls l) := fun X hE => by
      rcases hs with h | ⟨b, off, e, hb, hb2, hc⟩
      · exact .inl h
      · exact .inr ⟨b, off, e, Nat.lt_of_lt_of_le hb (Nat.le_trans hsz hE.size), fun j hj => (hE.cell (p := ⟨b, off + j, none⟩) (Nat.lt_of_lt_of_le hb hsz) hb2.1).trans ((World.cell?_of_block (w := W0) (a := ⟨b, off + j, none⟩) (no b hb hb2)).trans (hc j hj))⟩
    have hdb : ¬ d = bf := fun e => hFO d hd.1 (e ▸ hOf)
    have htb : ¬ 0 = bf := fun e => hFO _ hTF (e ▸ hOf)
    refine .inl ⟨_, _, rfl, goes1_enters, ?_⟩
    show Calls Tryz.prog 63 #[shN n, .pointer (some ⟨d, 0, none⟩), .pointer (some ⟨bf, 0, none⟩), .pointer (some ⟨b5, 0, none⟩), .pointer (some ⟨bt, 0, none⟩), .pointer (some ⟨bl, 0, none⟩), .pointer (some ⟨bg, 0, none⟩)] W _
    exact (Goes1_any l a cap b5 bt bl bf bg base fr tt d xs k n O W hl hok hn hx h0 h1 hmem.1 hmem.2.1 hmem.2.2 hJ hf hff hOf hfg hfb ((cc b5 l5 n5).trans c5) ((cc bt lt nt).trans ct) ((cc bl ll nl).trans cl)
      (Nat.lt_of_lt_of_le l5 hsz) (Nat.lt_of_lt_of_le lt hsz) (Nat.lt_of_lt_of_le ll hsz) n5.1 nt.1 nl.1 hsW (fun X hE => hT.eff hE htb) (fun X hE => hd.2.2.eff hE hdb)).mono
      fun e W' ⟨O', h1, h2, h3, h4, h5, h6, h7⟩ => ⟨O', h1, h2, h3, .inl ⟨h4, h5, h6, h7, h1 bf hOf⟩⟩
theorem dayS_snoc {l : List Cl} {L : List Int} {k : Nat} {n : Int} (h : L[k]? = some n) : dayS l (L.take (k + 1)) = dayS l (L.take k) ++ if anyQ (dayQ l n) then [n] else [] := by
  obtain ⟨hk, rfl⟩ := List.getElem?_eq_some_iff.1 h
  rw [dayS, dayS, filter_snoc hk]
theorem any_none {q : Nat → Bool} (h : anyQ q = false) : (secL q).length = 0 := by rw [secL, sel_none (anyQ_false.1 h)]; rfl
/-- how many discs are made of days -/
def InvG (j : Nat) (ws : Nat → Bool) (m : Nat) : Prop := m ≤ j
theorem invG_step {cs : List Cl} {n : Int} {j : Nat} {ws ws' : Nat → Bool} {m m' : Nat} (h : InvG j ws m) (hs : AtStep cs n ws m ws' m') : InvG (j + 1) ws' m' := by
  have := (at_more hs).1; rw [InvG] at h ⊢; omega
/-- a list of which the first i, and the last i, have changed places -/
def revI (L : List Int) (i j : Nat) : Int := if j < i ∨ L.length ≤ j + i then L.getD (L.length - 1 - j) 0 else L.getD j 0
theorem revI_zero (L : List Int) {j : Nat} (h : j < L.length) : revI L 0 j = L[j] := by
  rw [revI, if_neg (by omega), List.getD_eq_getElem?_getD, List.getElem?_eq_getElem h]; rfl
theorem revI_half (L : List Int) {i j : Nat} (hi : i = L.length / 2) (h : j < L.length) : revI L i j = L.reverse[j]'(by rw [List.length_reverse]; exact h) := by
  rw [List.getElem_reverse, revI]
  split
  · rw [List.getD_eq_getElem?_getD, List.getElem?_eq_getElem (by omega)]; rfl
  · have e : L.length - 1 - j = j := by omega
    rw [List.getD_eq_getElem?_getD, List.getElem?_eq_getElem h]
    simp only [e]; rfl
theorem revI_step (L : List Int) {i j : Nat} (hi : i < L.length / 2) (h : j < L.length) : revI L (i + 1) j = if j = i then L.getD (L.length - 1 - i) 0 else if j = L.length - 1 - i then L.getD i 0 else revI L i j := by
  rw [revI, revI]
  by_cases h1 : j = i
  · rw [if_pos h1, if_pos (.inl (by omega)), h1]
  · rw [if_neg h1]
    by_cases h2 : j = L.length - 1 - i
    · rw [if_pos h2, if_pos (.inr (by omega))]
      congr 1; omega
    · rw [if_neg h2]
      by_cases h3 : j < i ∨ L.length ≤ j + i
      · rw [if_pos h3, if_pos (by omega)]
      · rw [if_neg h3, if_neg (by omega)]
theorem revI_mid (L : List Int) {i : Nat} (hi : i < L.length / 2) : revI L i i = L.getD i 0 ∧ revI L i (L.length - 1 - i) = L.getD (L.length - 1 - i) 0 := by
  rw [revI, revI, if_neg (by omega), if_neg (by omega)]; exact ⟨rfl, rfl⟩
/-- the cells of such a list -/
structure RevS (g : Nat) (L : List Int) (W6 : World) (i : Nat) (w : World) : Prop where
  c : ∀ j, j < L.length → w.cell? ⟨g, j, none⟩ = some (.int .i64 (revI L i j))
  f : ∀ j, w.frozen? ⟨g, j, none⟩ = false
  e : Eff (fun b => b = g) W6 w
theorem RevS.swap {g : Nat} {L : List Int} {W6 w : World} {i : Nat} (h : RevS g L W6 i w) (hi : i < L.length / 2) : RevS g L W6 (i + 1) (((w.setCell ⟨g, i, none⟩ (.int .i64 (L.getD (L.length - 1 - i) 0))).setCell ⟨g, L.length - 1 - i, none⟩ (.int .i64 (L.getD i 0)))) := by
  have c1 := h.c i (by omega)
  have c2 := h.c (L.length - 1 - i) (by omega)
  refine ⟨fun j hj => ?_, fun j => by simp [go_sem, h.f], (h.e.set rfl _ _).set rfl _ _⟩
  rw [revI_step L hi hj]
  have n2 : i ≠ L.length - 1 - i := by omega
  by_cases h2 : j = L.length - 1 - i
  · rw [if_neg (by omega), if_pos h2, h2]
    exact World.cell?_setCell_same _ _ _ (by rw [World.cell?_setCell_other _ _ _ _ (by intro e; injection e with _ e _; omega), c2])
  · rw [World.cell?_setCell_other _ _ _ _ (by intro e; injection e with _ e _; omega)]
    by_cases h1 : j = i
    · rw [if_pos h1, h1]
      exact World.cell?_setCell_same _ _ _ (by rw [c1])
    · rw [if_neg h1, if_neg h2, World.cell?_setCell_other _ _ _ _ (by intro e; injection e with _ e _; omega)]
      exact h.c j hj
theorem rev_start {W : World} {base n cq : Nat} {aq : Option Addr} {L : List Int} (h : W.ownsRow base 3 1 (.slice aq n cq) n (ints L)) (hn : L ≠ []) : ∃ g, aq = some ⟨g, 0, none⟩ ∧ base ≤ g ∧ g < W.heap.size ∧ RevS g L W 0 W := by
  have hl := h.1
  rw [ints_length] at hl
  have hsl := owns_sl h
  rcases h.2 with ⟨h1, h2⟩ | ⟨g, cap, cur, h1, h2, h3, h4⟩
  · exact absurd (List.length_eq_zero_iff.1 (by omega)) hn
  · injection h1 with h5 h6 h7
    refine ⟨g, h5, h2, (Array.getElem?_eq_some_iff.1 h3).1, fun j hj => ?_, fun j => by simp [World.frozen?, h3], Eff.refl _ _⟩
    rcases hsl with h8 | ⟨b, off, h8, h9, h10⟩
    · exact absurd (by simpa [ints] using h8) hn
    · rw [h5] at h8
      cases h8
      have := h10 j (by rw [ints_length]; exact hj)
      rw [Nat.zero_add] at this
      rw [this, revI_zero L hj]; simp [ints]
set_option maxRecDepth 100000 in
set_option maxHeartbeats 12800000 in
theorem GoesA_any (a : Option Addr) (cap : Nat) (l : List Cl) (fr many : Int) (w : World) (hl : l.length ≤ 1000) (hlc : l.length ≤ cap) (hs : Sl w a (cls l)) (hno : a = none → cap = 0) (hok : ∀ c ∈ l, c.Ok) (f0 : 0 ≤ fr) (f1 : fr < 146097) (m0 : 0 ≤ many) (m1 : many < 40) (hT : Tab w) :
    Calls Tryz.prog 30 #[.slice a l.length cap, .int .i64 fr, .int .i64 many, .bool false] w fun e w' => e = .returned (.bool true) ∧ Below w.heap.size w w' := by
  obtain ⟨W1, hW1⟩ : ∃ W1, (w.alloc (.cells #[.slice a l.length cap] 22)).alloc (.cells #[.int .i64 fr] 2) = W1 := ⟨_, rfl⟩
  have hB1 : Below w.heap.size w W1 := by rw [← hW1]; exact below_new (below_new (Below.refl _ _) (Nat.le_refl _)) (by simp)
  have s1 : W1.heap.size = w.heap.size + 2 := by rw [← hW1]; simp
  have kl1 : W1.cell? ⟨w.heap.size, 0, none⟩ = some (.slice a l.length cap) := by rw [← hW1]; simp [go_sem]
  have k51 : W1.cell? ⟨w.heap.size + 1, 0, none⟩ = some (.int .i64 fr) := by rw [← hW1]; simp [go_sem]
  have cN := hid (RNew_any a cap l W1 (by omega) hlc (hs.below hB1) hno hok (hT.later hB1))
  have cM := hid (fun W (hB : Below w.heap.size w W) => RMay17_any a cap l W hl (hs.below hB) hok)
  have HB1 := hid hB1
  have HW1 := hid hW1
  have HT := hid hT
  have Hs := hid hs
  have Hok := hid hok
  have S1 := hid s1
  obtain ⟨tt, htt⟩ : ∃ tt : Int, min 146096 (fr + many) = tt := ⟨_, rfl⟩
  have t0 : fr ≤ tt := by omega
  have t1 : tt ≤ 146096 := by omega
  have Htt := hid htt
  clear hW1 hB1 hs hok hT s1 hno hlc htt
  go_enter Tryz.func30, Tryz.ntmps30
  go_upto_region 1 with fail
  rw [HW1.out]
  go_wp2_with fail
  refine cN.out.mono ?_
  rintro e w2 ⟨hN, hB2⟩
  rcases hN with ⟨hX, rfl⟩ | ⟨hX, br, bk, bps, rfl, hR, hM⟩
  · have HB2 := hid (HB1.out.trans (hB2.mono HB1.out.size))
    have hmay : Hid (mayL l = false) := by show _ = _; rw [may_fault, decide_eq_false hX]
    have cM2 := hid (cM.out w2 HB2.out)
    rw [hmay.out] at cM2
    have kl2 := (hB2.cell (p := ⟨w.heap.size, 0, none⟩) (by have := S1.out; simp only []; omega)).trans kl1
    obtain ⟨X, hXe⟩ : ∃ X, faultL l = X := ⟨_, rfl⟩
    rw [hXe] at hX ⊢
    have hX0 : (X == 0) = false := by simpa using hX
    have hX1 : (X != 0) = true := by simpa using hX
    have hX2 : ¬ X = 0 := hX
    clear hX hB2 hXe kl1 k51
    go_wp2_with fail
    refine cM2.out.mono ?_
    rintro e w3 ⟨rfl, hB3⟩
    have HB3 := hid (HB2.out.trans (hB3.mono HB2.out.size))
    clear hB3
    go_wp2
    go_ret
    exact ⟨rfl, HB3.out⟩
  · have HB2 := hid (HB1.out.trans (hB2.mono HB1.out.size))
    have kl2 := (hB2.cell (p := ⟨w.heap.size, 0, none⟩) (by have := S1.out; simp only []; omega)).trans kl1
    have k52 := (hB2.cell (p := ⟨w.heap.size + 1, 0, none⟩) (by have := S1.out; simp only []; omega)).trans k51
    have HM := hid hM
    have HR2 := hid hR
    have HX := hid hX
    have S2 : Hid (w.heap.size + 2 ≤ w2.heap.size) := by have := hB2.size; have := S1.out; show _ ≤ _; omega
    clear hX hB2 kl1 k51 hM hR
    go_upto_region 5 with fail
    have hif : (if fr + many < 146096 then fr + many else 146096) = tt := by rw [← Htt.out]; split <;> omega
    rw [hif]
    clear hif
    obtain ⟨w3, hw3⟩ : ∃ w3, w2.alloc (.cells #[.int .i64 tt] 2) = w3 := ⟨_, rfl⟩
    have hB3 : Below w2.heap.size w2 w3 := by rw [← hw3]; exact below_new (Below.refl _ _) (Nat.le_refl _)
    have kt3 : w3.cell? ⟨w2.heap.size, 0, none⟩ = some (.int .i64 tt) := by rw [← hw3]; simp [go_sem]
    have lbt : w2.heap.size < w3.heap.size := by rw [← hw3]; simp
    have k53 := (hB3.cell (p := ⟨w.heap.size + 1, 0, none⟩) (by have := S2.out; simp only []; omega)).trans k52
    have kl3 := (hB3.cell (p := ⟨w.heap.size, 0, none⟩) (by have := S2.out; simp only []; omega)).trans kl2
    have lb5 : w.heap.size + 1 < w3.heap.size := by have := S2.out; omega
    have HR3 := hid (HR2.out.below hB3)
    have HB3 := hid (HB2.out.trans (hB3.mono HB2.out.size))
    have HBt : Hid (∀ b, RM br bk bps b → b ≠ w2.heap.size) := fun b hb e => by have := HR2.out.x.lt b (HR2.out.x.sub b hb); omega
    obtain ⟨bt, hbt⟩ : ∃ b, w2.heap.size = b := ⟨_, rfl⟩
    rw [hbt] at kt3 lbt HBt ⊢
    rw [hw3]
    have Hbt := hid hbt
    clear hw3 hB3 k52 kl2 hbt
    have cA := hid (RAllC_any fr tt HR3.out (InvG 0) (Nat.le_refl 0))
    obtain ⟨X1, hX1⟩ : ∃ X, bndF l fr = X := ⟨_, rfl⟩
    obtain ⟨X2, hX2⟩ : ∃ X, bndU l tt = X := ⟨_, rfl⟩
    have hbr := bnd_rng l (f := fr) (t := tt) (by omega) (by omega)
    have hclip := dayS_clip l fr tt
    rw [hX1, hX2] at cA hbr hclip
    go_wp2_with fail
    refine cA.out.mono ?_
    rintro e w4 ⟨rfl, hB4, hl4, hH4⟩
    have HB4 := hid (HB3.out.trans (hB4.mono HB3.out.size))
    have kt4 := (hB4.cell (p := ⟨bt, 0, none⟩) lbt).trans kt3
    have k54 := (hB4.cell (p := ⟨w.heap.size + 1, 0, none⟩) lb5).trans k53
    have kl4 := (hB4.cell (p := ⟨w.heap.size, 0, none⟩) (by simp only []; omega)).trans kl3
    have hnil := fun (c : Array Value) W => run_eq_nilFunc (P := Tryz.prog) (t := 74) (f := .func 74) (a := #[]) (c := c) (w := W) ⟨_, _, _, Tryz.underlying74⟩
    obtain ⟨W0, hW0⟩ : ∃ W0, (w4.alloc (.cells #[.slice none 0 0] 58)).alloc (.cells #[.bool true] 4) = W0 := ⟨_, rfl⟩
    have q1 : W0.cell? ⟨w4.heap.size, 0, none⟩ = some (.slice none 0 0) := by rw [← hW0]; simp [go_sem]
    have q2 : W0.frozen? ⟨w4.heap.size, 0, none⟩ = false := by rw [← hW0]; simp [go_sem]
    have q5 : W0.cell? ⟨w4.heap.size + 1, 0, none⟩ = some (.bool true) := by rw [← hW0]; simp [go_sem]
    have q6 : W0.frozen? ⟨w4.heap.size + 1, 0, none⟩ = false := by rw [← hW0]; simp [go_sem]
    have q3 : W0.heap.size = w4.heap.size + 2 := by rw [← hW0]; simp
    have q4 : Below w4.heap.size w4 W0 := by rw [← hW0]; exact below_new (below_new (Below.refl _ _) (Nat.le_refl _)) (by simp)
    have hH0 := hH4.keep q4.size (fun b hb => q4.block b (hH4.lt b hb))
    have hlt4 := hH4.lt
    have hs34 := hB4.size
    have hs2 := S2.out
    have HB0 := hid (HB4.out.trans (q4.mono HB4.out.size))
    have kt0 := (q4.cell (p := ⟨bt, 0, none⟩) (by simp only []; omega)).trans kt4
    have k50 := (q4.cell (p := ⟨w.heap.size + 1, 0, none⟩) (by simp only []; omega)).trans k54
    have kl0 := (q4.cell (p := ⟨w.heap.size, 0, none⟩) (by simp only []; omega)).trans kl4
    have hbt2 : w.heap.size + 2 ≤ bt := by have := Hbt.out; omega
    have hMge := HM.out
    have hMlt : ∀ b, RM br bk bps b → b < w3.heap.size := fun b hb => HR3.out.x.lt b (HR3.out.x.sub b hb)
    have hs1 := S1.out
    have hXmem : ∀ n ∈ (dayS l (daysL fr tt)), fr ≤ n ∧ n ≤ tt ∧ anyQ (dayQ l n) = true := fun n hn => by
      skip
      rw [dayS, List.mem_filter, daysL_mem] at hn
      exact ⟨hn.1.1, hn.1.2, hn.2⟩
    have hXlen : (dayS l (daysL fr tt)).length ≤ 40 := by
      rw [dayS]
      refine Nat.le_trans (List.length_filter_le _ _) ?_
      rw [daysL_len]; have := Htt.out; omega
    have hI := RAllF_any (cs := l) (br := br) (bk := bk) (bps := bps) InvG (w3.heap.size + 1) (w3.heap.size + 2) w3.heap.size X1 X2 hbr.1 hbr.2.1 hbr.2.2.1 hbr.2.2.2
      (fun j n ws m ws' m' hn hi hs => invG_step hi hs) (fun j ws m hi hj => by rw [daysL_len] at hj; rw [InvG] at hi; omega)
      (.func (.func 63) #[] #[.pointer (some ⟨w4.heap.size + 1, 0, none⟩), .pointer (some ⟨w.heap.size + 1, 0, none⟩), .pointer (some ⟨bt, 0, none⟩), .pointer (some ⟨w.heap.size, 0, none⟩), .pointer (some ⟨w4.heap.size, 0, none⟩)])
      (GoJ (w4.heap.size + 1) w4.heap.size W0.heap.size (dayS l (daysL fr tt))) (fun _ _ _ _ => False) (fun b => b = w4.heap.size + 1 ∨ b = w4.heap.size) _ W0 hH0 (fun b hb e => by have := hlt4 b hb; omega)
    rw [hclip] at hI
    have hI2 := hI (goes_client (l := l) (a := a) (cap := cap) (b5 := w.heap.size + 1) (bt := bt) (bl := w.heap.size) (bf := w4.heap.size + 1) (bg := w4.heap.size) (base := W0.heap.size) (fr := fr) (tt := tt) (xs := (dayS l (daysL fr tt))) hl Hok.out (by omega) hXmem (by
          rcases Hs.out.below HB0.out with h | ⟨b, off, e, hb, hc⟩
          · exact .inl h
          · rcases Hs.out with h | ⟨b', off', e', hb', -⟩
            · exact .inl h
            · rw [e] at e'; cases e'
              exact .inr ⟨b, off, e, hb, ⟨by omega, by omega, fun h2 => by have := hMge b h2; omega⟩, hc⟩)
        k50 kt0 kl0 (by omega) (by omega) (by omega) ⟨by omega, by omega, fun h2 => by have := hMge _ h2; omega⟩ ⟨by omega, by omega, fun h2 => HBt.out _ h2 rfl⟩ ⟨by omega, by omega, fun h2 => by have := hMge _ h2; omega⟩ (by omega) (by omega))
      ⟨⟨_, q1, World.ownsRow_nil _ _ _ _, q2, by omega, Nat.le_refl _, .inr rfl, fun b hb => (by cases hb), fun b hb => by omega⟩, q5, q6, .inl rfl⟩
    have HI := hid hI2
    have HMge := hid (fun b hb => show w.heap.size ≤ b by have := hMge b hb; omega)
    have HXlen : Hid ((dayS l (daysL fr tt)).length ≤ 40) := hXlen
    have HW0 := hid hW0
    obtain ⟨bf, hbf⟩ : ∃ b, w4.heap.size + 1 = b := ⟨_, rfl⟩
    obtain ⟨bg, hbg⟩ : ∃ b, w4.heap.size = b := ⟨_, rfl⟩
    have Hno : Hid ((bt ≠ bf ∧ bt ≠ bg ∧ ¬ RM br bk bps bt) ∧ (w.heap.size + 1 ≠ bf ∧ w.heap.size + 1 ≠ bg ∧ ¬ RM br bk bps (w.heap.size + 1)) ∧ (w.heap.size ≠ bf ∧ w.heap.size ≠ bg ∧ ¬ RM br bk bps w.heap.size) ∧ bt < W0.heap.size ∧ w.heap.size + 1 < W0.heap.size ∧ w.heap.size < W0.heap.size ∧ w.heap.size ≤ bf ∧ w.heap.size ≤ bg) :=
      ⟨⟨by omega, by omega, fun h2 => HBt.out _ h2 rfl⟩, ⟨by omega, by omega, fun h2 => by have := hMge _ h2; omega⟩, ⟨by omega, by omega, fun h2 => by have := hMge _ h2; omega⟩, by omega, by omega, by omega, by omega, by omega⟩
    rw [hbf, hbg] at HI
    clear hI hI2 hMge hXlen hXmem hW0 q1 q2 q3 q4 q5 q6 hH4 hH0 hlt4 hMlt hclip hbr hB4
    have Hbf := hid hbf
    have Hbg := hid hbg
    clear hbf hbg
    go_wp2_with fail
    rw [HW0.out]
    rw [Hbf.out, Hbg.out]
    refine HI.out.mono ?_
    rintro e w5 ⟨⟨v, rfl⟩, O', F', hG, -, -, -, hend⟩
    rcases hend with hend | ⟨-, _, _, _, hx⟩
    rotate_left
    · exact hx.elim
    obtain ⟨-, hC5, kf5, -, -⟩ := hend
    obtain ⟨vd, kd5, od5, -⟩ := hC5
    obtain ⟨ad, cd, rfl, hsd, -⟩ := owns_form od5
    rw [List.take_length] at hsd
    have nn : ∀ b, b < W0.heap.size → (b ≠ bf ∧ b ≠ bg ∧ ¬ RM br bk bps b) → w5.cell? ⟨b, 0, none⟩ = W0.cell? ⟨b, 0, none⟩ := fun b hb h => hG.eff.cell (p := ⟨b, 0, none⟩) hb (fun h2 => by
      rcases h2 with (h2 | h2) | h2
      · exact h.1 h2
      · exact h.2.1 h2
      · exact h.2.2 h2)
    obtain ⟨no1, no2, no3, no4, no5, no6, no7, no8⟩ := Hno.out
    have kt5 := (nn bt no4 no1).trans kt0
    have k55 := (nn _ no5 no2).trans k50
    have kl5 := (nn _ no6 no3).trans kl0
    have HB5 : Hid (Below w.heap.size w w5) := HB0.out.trans (hG.eff.below (fun b hb => by
      rcases hb with (h | h) | h
      · rw [h]; exact no7
      · rw [h]; exact no8
      · exact HMge.out b h) HB0.out.size)
    have hs05 := hG.eff.size
    have lt5 : bt < w5.heap.size := by omega
    have l55 : w.heap.size + 1 < w5.heap.size := by omega
    have ll5 : w.heap.size < w5.heap.size := by omega
    have lf5 := World.block_lt_of_cell? _ _ kf5
    have lg5 := World.block_lt_of_cell? _ _ kd5
    have Hsd := hid hsd
    clear hG od5 hsd nn no1 no2 no3 no4 no5 no6 no7 no8 kt0 k50 kl0 hs05
    obtain ⟨XS, hXS⟩ : ∃ XS, (dayS l (daysL fr tt)) = XS := ⟨_, rfl⟩
    have HXS := hid hXS
    rw [hXS] at Hsd HXlen kd5
    clear hXS HI HMge
    go_wp2_with fail
    go_loopw [15, 16] (fun v i wr => ∃ (k q cq : Nat) (aq : Option Addr), i = .int .i64 (fr + k) ∧ fr + k ≤ tt + 1 ∧ v = .slice aq q cq ∧ q ≤ k ∧ k ≤ 146097 ∧ Hid (q = (dayS l ((daysL fr tt).take k)).length) ∧ Hid (wr.ownsRow w5.heap.size 3 1 (.slice aq q cq) q (ints (dayS l ((daysL fr tt).take k)))) ∧ Hid (Below w5.heap.size w5 wr)) (fun _ i _ => (tt + 1 - intOf i).toNat)
    case atStart => exact ⟨0, 0, 0, none, by simp, by omega, rfl, by omega, by omega, (rfl : (0 : Nat) = 0), World.ownsRow_nil _ _ _ _, Below.refl _ _⟩
    case round =>
      obtain ⟨k, q, cq, aq, rfl, hk, rfl, hqk, hkm, Hq, HO, HB9⟩ := hrel
      have kt9 := (HB9.out.cell (p := ⟨bt, 0, none⟩) lt5).trans kt5
      have kl9 := (HB9.out.cell (p := ⟨w.heap.size, 0, none⟩) ll5).trans kl5
      by_cases hlt : fr + k ≤ tt
      · have hget : (daysL fr tt)[k]? = some (fr + (k : Int)) := by
          have hl := daysL_len fr tt
          have h1 : k < (daysL fr tt).length := by omega
          rw [List.getElem?_eq_getElem h1, daysL_get]
        have Hsn := hid (dayS_snoc (l := l) hget)
        have n0 : 0 ≤ fr + (k : Int) := by omega
        have n1 : fr + (k : Int) < 146097 := by omega
        have cD := hid (own_ret (RLapAll16_any a cap l (fr + k) wr hl (Hs.out.below (HB5.out.trans (HB9.out.mono HB5.out.size))) Hok.out n0 n1))
        have hz := hid (And.intro (fun h : anyQ (dayQ l (fr + k)) = true => any_len h) (fun h : anyQ (dayQ l (fr + k)) = false => any_none h))
        obtain ⟨qb, hqb⟩ : ∃ b, anyQ (dayQ l (fr + k)) = b := ⟨_, rfl⟩
        obtain ⟨S, hS⟩ : ∃ S, secL (dayQ l (fr + k)) = S := ⟨_, rfl⟩
        rw [hqb] at Hsn hz
        rw [hS] at cD hz
        clear hget hqb hS
        go_wp2_with fail
        refine cD.out.mono ?_
        rintro e w6 ⟨a6, m6, c6, rfl, hm6, -, -, hB6⟩
        obtain rfl := hm6.out
        have HB6 := hid (HB9.out.trans (hB6.mono HB9.out.size))
        have HO6 := hid (owns_below HO.out hB6 (Nat.le_refl _))
        have hbs : w5.heap.size ≤ w6.heap.size := HB6.out.size
        clear hB6 hm6 cD kt9 kl9
        cases qb
        · have hz0 := hz.out.2 rfl
          have hq1 : Hid (q = (dayS l ((daysL fr tt).take (k + 1))).length) := by show q = _; rw [Hsn.out]; simpa using Hq.out
          have ho1 : Hid (w6.ownsRow w5.heap.size 3 1 (.slice aq q cq) q (ints (dayS l ((daysL fr tt).take (k + 1))))) := by show World.ownsRow _ _ _ _ _ _ _; rw [Hsn.out]; simpa using HO6.out
          have hz1 : (S.length : Int) = 0 := by omega
          clear hz0
          go_wp2
          exact ⟨⟨k + 1, q, cq, aq, by go_num, by omega, rfl, by omega, by omega, hq1, ho1, HB6⟩, by simp [intOf]; omega⟩
        · have hz0 := hz.out.1 rfl
          have hz1 : (0 : Int) < S.length := by omega
          go_wp2_with (at_builtin; refine app1 eInt (.tmp 61) (.tmp 63) rfl rfl rfl rfl rfl HO6.out rfl (by omega) (by omega) hbs ?_)
          intro a' cap' w7 hown2 hg2 hb2 hf2
          have hq1 : Hid (q + 1 = (dayS l ((daysL fr tt).take (k + 1))).length) := by show q + 1 = _; rw [Hsn.out, if_pos trivial, List.length_append, ← Hq.out]; rfl
          have ho1 : Hid (w7.ownsRow w5.heap.size 3 1 (.slice a' (q + 1) cap') (q + 1) (ints (dayS l ((daysL fr tt).take (k + 1))))) := by
            show World.ownsRow _ _ _ _ _ _ _
            rw [Hsn.out, if_pos trivial, ints_append, ints_one]; exact hown2
          have HB7 := hid (HB6.out.trans hb2)
          clear hown2 hg2 hb2 hf2 hz0
          go_wp2
          exact ⟨⟨k + 1, q + 1, cap', a', by go_num, by omega, rfl, by omega, by omega, hq1, ho1, HB7⟩, by simp [intOf]; omega⟩
      · have hke : (daysL fr tt).take k = daysL fr tt := List.take_of_length_le (by rw [daysL_len]; omega)
        rw [hke] at Hq HO
        have hq40 : q ≤ 40 := by
          have h1 := HXlen.out
          have h2 := Hq.out
          rw [h2, HXS.out]; exact h1
        clear hke kl9
        have hqx : q = XS.length := by rw [Hq.out, HXS.out]
        subst hqx
        rw [HXS.out] at HO
        have hlt2 : ¬ fr + (k : Int) ≤ tt := hlt
        clear Hq hkm hqk hk
        go_wp2_with fail
        clear kt9
        go_loopw [17] (fun i wr => i = .int .i64 0 ∧ Hid (wr.ownsRow w5.heap.size 3 1 (.slice aq XS.length cq) XS.length (ints XS)) ∧ Hid (Below w5.heap.size w5 wr)) (fun _ _ => 0)
        case atStart => exact ⟨rfl, HO, HB9⟩
        case round =>
          clear HO HB9
          obtain ⟨rfl, HO8, HB8⟩ := hrel
          have kd9 := (HB8.out.cell (p := ⟨bg, 0, none⟩) lg5).trans kd5
          have kf9 := (HB8.out.cell (p := ⟨bf, 0, none⟩) lf5).trans kf5
          have cI := hid (Ints_any ad aq cd cq XS XS wr (by omega) (by omega) (Hsd.out.below HB8.out) (owns_sl HO8.out))
          rw [decide_eq_true rfl] at cI
          go_wp2_with fail
          refine cI.out.mono ?_
          rintro e w8 ⟨rfl, hB8⟩
          have HBz := hid (HB5.out.trans ((HB8.out.trans (hB8.mono HB8.out.size)).mono HB5.out.size))
          clear hB8
          go_wp2
          go_ret
          exact ⟨rfl, HBz.out⟩
set_option maxRecDepth 100000 in
set_option maxHeartbeats 12800000 in
theorem GoesB_any (a : Option Addr) (cap : Nat) (l : List Cl) (fr many : Int) (w : World) (hl : l.length ≤ 1000) (hlc : l.length ≤ cap) (hs : Sl w a (cls l)) (hno : a = none → cap = 0) (hok : ∀ c ∈ l, c.Ok) (f0 : 0 ≤ fr) (f1 : fr < 146097) (m0 : 0 ≤ many) (m1 : many < 40) (hT : Tab w) :
    Calls Tryz.prog 30 #[.slice a l.length cap, .int .i64 fr, .int .i64 many, .bool true] w fun e w' => e = .returned (.bool true) ∧ Below w.heap.size w w' := by
  obtain ⟨W1, hW1⟩ : ∃ W1, (w.alloc (.cells #[.slice a l.length cap] 22)).alloc (.cells #[.int .i64 fr] 2) = W1 := ⟨_, rfl⟩
  have hB1 : Below w.heap.size w W1 := by rw [← hW1]; exact below_new (below_new (Below.refl _ _) (Nat.le_refl _)) (by simp)
  have s1 : W1.heap.size = w.heap.size + 2 := by rw [← hW1]; simp
  have kl1 : W1.cell? ⟨w.heap.size, 0, none⟩ = some (.slice a l.length cap) := by rw [← hW1]; simp [go_sem]
  have k51 : W1.cell? ⟨w.heap.size + 1, 0, none⟩ = some (.int .i64 fr) := by rw [← hW1]; simp [go_sem]
  have cN := hid (RNew_any a cap l W1 (by omega) hlc (hs.below hB1) hno hok (hT.later hB1))
  have cM := hid (fun W (hB : Below w.heap.size w W) => RMay17_any a cap l W hl (hs.below hB) hok)
  have HB1 := hid hB1
  have HW1 := hid hW1
  have HT := hid hT
  have Hs := hid hs
  have Hok := hid hok
  have S1 := hid s1
  obtain ⟨tt, htt⟩ : ∃ tt : Int, min 146096 (fr + many) = tt := ⟨_, rfl⟩
  have t0 : fr ≤ tt := by omega
  have t1 : tt ≤ 146096 := by omega
  have Htt := hid htt
  clear hW1 hB1 hs hok hT s1 hno hlc htt
  go_enter Tryz.func30, Tryz.ntmps30
  go_upto_region 1 with fail
  rw [HW1.out]
  go_wp2_with fail
  refine cN.out.mono ?_
  rintro e w2 ⟨hN, hB2⟩
  rcases hN with ⟨hX, rfl⟩ | ⟨hX, br, bk, bps, rfl, hR, hM⟩
  · have HB2 := hid (HB1.out.trans (hB2.mono HB1.out.size))
    have hmay : Hid (mayL l = false) := by show _ = _; rw [may_fault, decide_eq_false hX]
    have cM2 := hid (cM.out w2 HB2.out)
    rw [hmay.out] at cM2
    have kl2 := (hB2.cell (p := ⟨w.heap.size, 0, none⟩) (by have := S1.out; simp only []; omega)).trans kl1
    obtain ⟨X, hXe⟩ : ∃ X, faultL l = X := ⟨_, rfl⟩
    rw [hXe] at hX ⊢
    have hX0 : (X == 0) = false := by simpa using hX
    have hX1 : (X != 0) = true := by simpa using hX
    have hX2 : ¬ X = 0 := hX
    clear hX hB2 hXe kl1 k51
    go_wp2_with fail
    refine cM2.out.mono ?_
    rintro e w3 ⟨rfl, hB3⟩
    have HB3 := hid (HB2.out.trans (hB3.mono HB2.out.size))
    clear hB3
    go_wp2
    go_ret
    exact ⟨rfl, HB3.out⟩
  · have HB2 := hid (HB1.out.trans (hB2.mono HB1.out.size))
    have kl2 := (hB2.cell (p := ⟨w.heap.size, 0, none⟩) (by have := S1.out; simp only []; omega)).trans kl1
    have k52 := (hB2.cell (p := ⟨w.heap.size + 1, 0, none⟩) (by have := S1.out; simp only []; omega)).trans k51
    have HM := hid hM
    have HR2 := hid hR
    have HX := hid hX
    have S2 : Hid (w.heap.size + 2 ≤ w2.heap.size) := by have := hB2.size; have := S1.out; show _ ≤ _; omega
    clear hX hB2 kl1 k51 hM hR
    go_upto_region 5 with fail
    have hif : (if fr + many < 146096 then fr + many else 146096) = tt := by rw [← Htt.out]; split <;> omega
    rw [hif]
    clear hif
    obtain ⟨w3, hw3⟩ : ∃ w3, w2.alloc (.cells #[.int .i64 tt] 2) = w3 := ⟨_, rfl⟩
    have hB3 : Below w2.heap.size w2 w3 := by rw [← hw3]; exact below_new (Below.refl _ _) (Nat.le_refl _)
    have kt3 : w3.cell? ⟨w2.heap.size, 0, none⟩ = some (.int .i64 tt) := by rw [← hw3]; simp [go_sem]
    have lbt : w2.heap.size < w3.heap.size := by rw [← hw3]; simp
    have k53 := (hB3.cell (p := ⟨w.heap.size + 1, 0, none⟩) (by have := S2.out; simp only []; omega)).trans k52
    have kl3 := (hB3.cell (p := ⟨w.heap.size, 0, none⟩) (by have := S2.out; simp only []; omega)).trans kl2
    have lb5 : w.heap.size + 1 < w3.heap.size := by have := S2.out; omega
    have HR3 := hid (HR2.out.below hB3)
    have HB3 := hid (HB2.out.trans (hB3.mono HB2.out.size))
    have HBt : Hid (∀ b, RM br bk bps b → b ≠ w2.heap.size) := fun b hb e => by have := HR2.out.x.lt b (HR2.out.x.sub b hb); omega
    obtain ⟨bt, hbt⟩ : ∃ b, w2.heap.size = b := ⟨_, rfl⟩
    rw [hbt] at kt3 lbt HBt ⊢
    rw [hw3]
    have Hbt := hid hbt
    clear hw3 hB3 k52 kl2 hbt
    have cA := hid (RAllC_any fr tt HR3.out (InvG 0) (Nat.le_refl 0))
    obtain ⟨X1, hX1⟩ : ∃ X, bndF l fr = X := ⟨_, rfl⟩
    obtain ⟨X2, hX2⟩ : ∃ X, bndU l tt = X := ⟨_, rfl⟩
    have hbr := bnd_rng l (f := fr) (t := tt) (by omega) (by omega)
    have hclip := dayS_clip l fr tt
    have cB0 := hid (fun W (hB : Below w3.heap.size w3 W) => RBackC_any fr tt (HR3.out.below hB) (InvG 0) (Nat.le_refl 0))
    rw [hX1, hX2] at cA cB0 hbr hclip
    go_wp2_with fail
    refine cA.out.mono ?_
    rintro e w3b ⟨rfl, hB3b, -, -⟩
    have HB3b := hid hB3b
    have cB := hid (cB0.out w3b hB3b)
    have hT3b : w3b.cell? ⟨bt, 0, none⟩ = some (.int .i64 tt) := (hB3b.cell (p := ⟨bt, 0, none⟩) lbt).trans kt3
    have h53b : w3b.cell? ⟨w.heap.size + 1, 0, none⟩ = some (.int .i64 fr) := (hB3b.cell (p := ⟨w.heap.size + 1, 0, none⟩) lb5).trans k53
    clear hB3b
    go_wp2_with fail
    refine cB.out.mono ?_
    rintro e w4 ⟨rfl, hB4', hl4, hH4⟩
    have hB4 := HB3b.out.trans (hB4'.mono HB3b.out.size)
    have HB4 := hid (HB3.out.trans (hB4.mono HB3.out.size))
    have kt4 := (hB4.cell (p := ⟨bt, 0, none⟩) lbt).trans kt3
    have k54 := (hB4.cell (p := ⟨w.heap.size + 1, 0, none⟩) lb5).trans k53
    have kl4 := (hB4.cell (p := ⟨w.heap.size, 0, none⟩) (by simp only []; omega)).trans kl3
    have hnil := fun (c : Array Value) W => run_eq_nilFunc (P := Tryz.prog) (t := 74) (f := .func 112) (a := #[]) (c := c) (w := W) ⟨_, _, _, Tryz.underlying74⟩
    obtain ⟨W0, hW0⟩ : ∃ W0, (w4.alloc (.cells #[.slice none 0 0] 58)).alloc (.cells #[.bool true] 4) = W0 := ⟨_, rfl⟩
    have q1 : W0.cell? ⟨w4.heap.size, 0, none⟩ = some (.slice none 0 0) := by rw [← hW0]; simp [go_sem]
    have q2 : W0.frozen? ⟨w4.heap.size, 0, none⟩ = false := by rw [← hW0]; simp [go_sem]
    have q5 : W0.cell? ⟨w4.heap.size + 1, 0, none⟩ = some (.bool true) := by rw [← hW0]; simp [go_sem]
    have q6 : W0.frozen? ⟨w4.heap.size + 1, 0, none⟩ = false := by rw [← hW0]; simp [go_sem]
    have q3 : W0.heap.size = w4.heap.size + 2 := by rw [← hW0]; simp
    have q4 : Below w4.heap.size w4 W0 := by rw [← hW0]; exact below_new (below_new (Below.refl _ _) (Nat.le_refl _)) (by simp)
    have hH0 := hH4.keep q4.size (fun b hb => q4.block b (hH4.lt b hb))
    have hlt4 := hH4.lt
    have hs34 := hB4.size
    have hs2 := S2.out
    have HB0 := hid (HB4.out.trans (q4.mono HB4.out.size))
    have kt0 := (q4.cell (p := ⟨bt, 0, none⟩) (by simp only []; omega)).trans kt4
    have k50 := (q4.cell (p := ⟨w.heap.size + 1, 0, none⟩) (by simp only []; omega)).trans k54
    have kl0 := (q4.cell (p := ⟨w.heap.size, 0, none⟩) (by simp only []; omega)).trans kl4
    have hbt2 : w.heap.size + 2 ≤ bt := by have := Hbt.out; omega
    have hMge := HM.out
    have hMlt : ∀ b, RM br bk bps b → b < w3.heap.size := fun b hb => HR3.out.x.lt b (HR3.out.x.sub b hb)
    have hs1 := S1.out
    have hXmem : ∀ n ∈ (dayS l (daysL fr tt)).reverse, fr ≤ n ∧ n ≤ tt ∧ anyQ (dayQ l n) = true := fun n hn => by
      rw [List.mem_reverse] at hn
      rw [dayS, List.mem_filter, daysL_mem] at hn
      exact ⟨hn.1.1, hn.1.2, hn.2⟩
    have hXlen : (dayS l (daysL fr tt)).reverse.length ≤ 40 := by
      rw [List.length_reverse, dayS]
      refine Nat.le_trans (List.length_filter_le _ _) ?_
      rw [daysL_len]; have := Htt.out; omega
    have hI := RBackF_any (cs := l) (br := br) (bk := bk) (bps := bps) InvG (w3b.heap.size + 2) (w3b.heap.size + 1) w3b.heap.size X1 X2 hbr.1 hbr.2.1 hbr.2.2.1 hbr.2.2.2
      (fun j n ws m ws' m' hn hi hs => invG_step hi hs) (fun j ws m hi hj => by rw [daysR_len] at hj; rw [InvG] at hi; omega)
      (.func (.func 63) #[] #[.pointer (some ⟨w4.heap.size + 1, 0, none⟩), .pointer (some ⟨w.heap.size + 1, 0, none⟩), .pointer (some ⟨bt, 0, none⟩), .pointer (some ⟨w.heap.size, 0, none⟩), .pointer (some ⟨w4.heap.size, 0, none⟩)])
      (GoJ (w4.heap.size + 1) w4.heap.size W0.heap.size (dayS l (daysL fr tt)).reverse) (fun _ _ _ _ => False) (fun b => b = w4.heap.size + 1 ∨ b = w4.heap.size) _ W0 hH0 (fun b hb e => by have := hlt4 b hb; omega)
    rw [dayS_rev, hclip] at hI
    have hI2 := hI (goes_client (l := l) (a := a) (cap := cap) (b5 := w.heap.size + 1) (bt := bt) (bl := w.heap.size) (bf := w4.heap.size + 1) (bg := w4.heap.size) (base := W0.heap.size) (fr := fr) (tt := tt) (xs := (dayS l (daysL fr tt)).reverse) hl Hok.out (by omega) hXmem (by
          rcases Hs.out.below HB0.out with h | ⟨b, off, e, hb, hc⟩
          · exact .inl h
          · rcases Hs.out with h | ⟨b', off', e', hb', -⟩
            · exact .inl h
            · rw [e] at e'; cases e'
              exact .inr ⟨b, off, e, hb, ⟨by omega, by omega, fun h2 => by have := hMge b h2; omega⟩, hc⟩)
        k50 kt0 kl0 (by omega) (by omega) (by omega) ⟨by omega, by omega, fun h2 => by have := hMge _ h2; omega⟩ ⟨by omega, by omega, fun h2 => HBt.out _ h2 rfl⟩ ⟨by omega, by omega, fun h2 => by have := hMge _ h2; omega⟩ (by omega) (by omega))
      ⟨⟨_, q1, World.ownsRow_nil _ _ _ _, q2, by omega, Nat.le_refl _, .inr rfl, fun b hb => (by cases hb), fun b hb => by omega⟩, q5, q6, .inl rfl⟩
    have HI := hid hI2
    have HMge := hid (fun b hb => show w.heap.size ≤ b by have := hMge b hb; omega)
    have HXlen : Hid ((dayS l (daysL fr tt)).reverse.length ≤ 40) := hXlen
    have HW0 := hid hW0
    obtain ⟨bf, hbf⟩ : ∃ b, w4.heap.size + 1 = b := ⟨_, rfl⟩
    obtain ⟨bg, hbg⟩ : ∃ b, w4.heap.size = b := ⟨_, rfl⟩
    have Hno : Hid ((bt ≠ bf ∧ bt ≠ bg ∧ ¬ RM br bk bps bt) ∧ (w.heap.size + 1 ≠ bf ∧ w.heap.size + 1 ≠ bg ∧ ¬ RM br bk bps (w.heap.size + 1)) ∧ (w.heap.size ≠ bf ∧ w.heap.size ≠ bg ∧ ¬ RM br bk bps w.heap.size) ∧ bt < W0.heap.size ∧ w.heap.size + 1 < W0.heap.size ∧ w.heap.size < W0.heap.size ∧ w.heap.size ≤ bf ∧ w.heap.size ≤ bg) :=
      ⟨⟨by omega, by omega, fun h2 => HBt.out _ h2 rfl⟩, ⟨by omega, by omega, fun h2 => by have := hMge _ h2; omega⟩, ⟨by omega, by omega, fun h2 => by have := hMge _ h2; omega⟩, by omega, by omega, by omega, by omega, by omega⟩
    rw [hbf, hbg] at HI
    clear hI hI2 hMge hXlen hXmem hW0 q1 q2 q3 q4 q5 q6 hH4 hH0 hlt4 hMlt hclip hbr hB4
    have Hbf := hid hbf
    have Hbg := hid hbg
    clear hbf hbg
    go_wp2_with fail
    rw [HW0.out]
    rw [Hbf.out, Hbg.out]
    refine HI.out.mono ?_
    rintro e w5 ⟨⟨v, rfl⟩, O', F', hG, -, -, -, hend⟩
    rcases hend with hend | ⟨-, _, _, _, hx⟩
    rotate_left
    · exact hx.elim
    obtain ⟨-, hC5, kf5, -, -⟩ := hend
    obtain ⟨vd, kd5, od5, -⟩ := hC5
    obtain ⟨ad, cd, rfl, hsd, -⟩ := owns_form od5
    rw [List.take_length] at hsd
    have nn : ∀ b, b < W0.heap.size → (b ≠ bf ∧ b ≠ bg ∧ ¬ RM br bk bps b) → w5.cell? ⟨b, 0, none⟩ = W0.cell? ⟨b, 0, none⟩ := fun b hb h => hG.eff.cell (p := ⟨b, 0, none⟩) hb (fun h2 => by
      rcases h2 with (h2 | h2) | h2
      · exact h.1 h2
      · exact h.2.1 h2
      · exact h.2.2 h2)
    obtain ⟨no1, no2, no3, no4, no5, no6, no7, no8⟩ := Hno.out
    have kt5 := (nn bt no4 no1).trans kt0
    have k55 := (nn _ no5 no2).trans k50
    have kl5 := (nn _ no6 no3).trans kl0
    have HB5 : Hid (Below w.heap.size w w5) := HB0.out.trans (hG.eff.below (fun b hb => by
      rcases hb with (h | h) | h
      · rw [h]; exact no7
      · rw [h]; exact no8
      · exact HMge.out b h) HB0.out.size)
    have hs05 := hG.eff.size
    have lt5 : bt < w5.heap.size := by omega
    have l55 : w.heap.size + 1 < w5.heap.size := by omega
    have ll5 : w.heap.size < w5.heap.size := by omega
    have lf5 := World.block_lt_of_cell? _ _ kf5
    have lg5 := World.block_lt_of_cell? _ _ kd5
    have Hsd := hid hsd
    clear hG od5 hsd nn no1 no2 no3 no4 no5 no6 no7 no8 kt0 k50 kl0 hs05
    obtain ⟨XS, hXS⟩ : ∃ XS, (dayS l (daysL fr tt)).reverse = XS := ⟨_, rfl⟩
    have HXS := hid hXS
    rw [hXS] at Hsd HXlen kd5
    clear hXS HI HMge
    go_wp2_with fail
    go_loopw [15, 16] (fun v i wr => ∃ (k q cq : Nat) (aq : Option Addr), i = .int .i64 (fr + k) ∧ fr + k ≤ tt + 1 ∧ v = .slice aq q cq ∧ q ≤ k ∧ k ≤ 146097 ∧ Hid (q = (dayS l ((daysL fr tt).take k)).length) ∧ Hid (wr.ownsRow w5.heap.size 3 1 (.slice aq q cq) q (ints (dayS l ((daysL fr tt).take k)))) ∧ Hid (Below w5.heap.size w5 wr)) (fun _ i _ => (tt + 1 - intOf i).toNat)
    case atStart => exact ⟨0, 0, 0, none, by simp, by omega, rfl, by omega, by omega, (rfl : (0 : Nat) = 0), World.ownsRow_nil _ _ _ _, Below.refl _ _⟩
    case round =>
      obtain ⟨k, q, cq, aq, rfl, hk, rfl, hqk, hkm, Hq, HO, HB9⟩ := hrel
      have kt9 := (HB9.out.cell (p := ⟨bt, 0, none⟩) lt5).trans kt5
      have kl9 := (HB9.out.cell (p := ⟨w.heap.size, 0, none⟩) ll5).trans kl5
      by_cases hlt : fr + k ≤ tt
      · have hget : (daysL fr tt)[k]? = some (fr + (k : Int)) := by
          have hl := daysL_len fr tt
          have h1 : k < (daysL fr tt).length := by omega
          rw [List.getElem?_eq_getElem h1, daysL_get]
        have Hsn := hid (dayS_snoc (l := l) hget)
        have n0 : 0 ≤ fr + (k : Int) := by omega
        have n1 : fr + (k : Int) < 146097 := by omega
        have cD := hid (own_ret (RLapAll16_any a cap l (fr + k) wr hl (Hs.out.below (HB5.out.trans (HB9.out.mono HB5.out.size))) Hok.out n0 n1))
        have hz := hid (And.intro (fun h : anyQ (dayQ l (fr + k)) = true => any_len h) (fun h : anyQ (dayQ l (fr + k)) = false => any_none h))
        obtain ⟨qb, hqb⟩ : ∃ b, anyQ (dayQ l (fr + k)) = b := ⟨_, rfl⟩
        obtain ⟨S, hS⟩ : ∃ S, secL (dayQ l (fr + k)) = S := ⟨_, rfl⟩
        rw [hqb] at Hsn hz
        rw [hS] at cD hz
        clear hget hqb hS
        go_wp2_with fail
        refine cD.out.mono ?_
        rintro e w6 ⟨a6, m6, c6, rfl, hm6, -, -, hB6⟩
        obtain rfl := hm6.out
        have HB6 := hid (HB9.out.trans (hB6.mono HB9.out.size))
        have HO6 := hid (owns_below HO.out hB6 (Nat.le_refl _))
        have hbs : w5.heap.size ≤ w6.heap.size := HB6.out.size
        clear hB6 hm6 cD kt9 kl9
        cases qb
        · have hz0 := hz.out.2 rfl
          have hq1 : Hid (q = (dayS l ((daysL fr tt).take (k + 1))).length) := by show q = _; rw [Hsn.out]; simpa using Hq.out
          have ho1 : Hid (w6.ownsRow w5.heap.size 3 1 (.slice aq q cq) q (ints (dayS l ((daysL fr tt).take (k + 1))))) := by show World.ownsRow _ _ _ _ _ _ _; rw [Hsn.out]; simpa using HO6.out
          have hz1 : (S.length : Int) = 0 := by omega
          clear hz0
          go_wp2
          exact ⟨⟨k + 1, q, cq, aq, by go_num, by omega, rfl, by omega, by omega, hq1, ho1, HB6⟩, by simp [intOf]; omega⟩
        · have hz0 := hz.out.1 rfl
          have hz1 : (0 : Int) < S.length := by omega
          go_wp2_with (at_builtin; refine app1 eInt (.tmp 61) (.tmp 63) rfl rfl rfl rfl rfl HO6.out rfl (by omega) (by omega) hbs ?_)
          intro a' cap' w7 hown2 hg2 hb2 hf2
          have hq1 : Hid (q + 1 = (dayS l ((daysL fr tt).take (k + 1))).length) := by show q + 1 = _; rw [Hsn.out, if_pos trivial, List.length_append, ← Hq.out]; rfl
          have ho1 : Hid (w7.ownsRow w5.heap.size 3 1 (.slice a' (q + 1) cap') (q + 1) (ints (dayS l ((daysL fr tt).take (k + 1))))) := by
            show World.ownsRow _ _ _ _ _ _ _
            rw [Hsn.out, if_pos trivial, ints_append, ints_one]; exact hown2
          have HB7 := hid (HB6.out.trans hb2)
          clear hown2 hg2 hb2 hf2 hz0
          go_wp2
          exact ⟨⟨k + 1, q + 1, cap', a', by go_num, by omega, rfl, by omega, by omega, hq1, ho1, HB7⟩, by simp [intOf]; omega⟩
      · have hke : (daysL fr tt).take k = daysL fr tt := List.take_of_length_le (by rw [daysL_len]; omega)
        rw [hke] at Hq HO
        have hq40 : q ≤ 40 := by
          have h1 := HXlen.out
          have h2 := Hq.out
          rw [← HXS.out, List.length_reverse] at h1
          rw [h2]; exact h1
        clear hke kl9
        obtain ⟨L, hL⟩ : ∃ L, dayS l (daysL fr tt) = L := ⟨_, rfl⟩
        rw [hL] at Hq HO HXS
        have hqx : q = L.length := Hq.out
        subst hqx
        have HXL := hid (show XS.length = L.length by rw [← HXS.out, List.length_reverse])
        have hlt2 : ¬ fr + (k : Int) ≤ tt := hlt
        clear Hq hkm hqk hk hL
        go_wp2_with fail
        clear kt9
        by_cases hL0 : L.length / 2 = 0
        · go_loopw [17] (fun i wr => i = .int .i64 0 ∧ Hid (wr.ownsRow w5.heap.size 3 1 (.slice aq L.length cq) L.length (ints L)) ∧ Hid (Below w5.heap.size w5 wr)) (fun _ _ => 0)
          case atStart => exact ⟨rfl, HO, HB9⟩
          case round =>
            clear HO HB9
            obtain ⟨rfl, HO8, HB8⟩ := hrel
            have kd9 := (HB8.out.cell (p := ⟨bg, 0, none⟩) lg5).trans kd5
            have kf9 := (HB8.out.cell (p := ⟨bf, 0, none⟩) lf5).trans kf5
            have hLX : Hid (L = XS) := by
              show _ = _
              rw [← HXS.out]
              match L, hL0 with
              | [], _ => rfl
              | [x], _ => rfl
              | x :: y :: L, h => exact absurd h (by simp only [List.length_cons]; omega)
            have hq0 : ¬ (0 : Int) < (L.length : Int) / 2 := by omega
            have cI := hid (Ints_any ad aq cd cq XS XS wr (by have := HXL.out; omega) (by have := HXL.out; omega) (Hsd.out.below HB8.out) (by rw [← hLX.out]; exact owns_sl HO8.out))
            rw [decide_eq_true rfl, HXL.out] at cI
            rw [HXL.out] at kd9
            go_wp2_with fail
            refine cI.out.mono ?_
            rintro e w8 ⟨rfl, hB8⟩
            have HBz := hid (HB5.out.trans ((HB8.out.trans (hB8.mono HB8.out.size)).mono HB5.out.size))
            clear hB8
            go_wp2
            go_ret
            exact ⟨rfl, HBz.out⟩
        · obtain ⟨g, rfl, hg5, hgl, hrev⟩ := rev_start HO.out (fun h => hL0 (by rw [h]; rfl))
          have Hrev := hid hrev
          have Hg5 := hid hg5
          clear hrev HO
          go_loopw [17] (fun i wx => ∃ k : Nat, i = .int .i64 k ∧ k ≤ L.length / 2 ∧ Hid (RevS g L wr k wx)) (fun i _ => L.length / 2 - (intOf i).toNat)
          case atStart => exact ⟨0, rfl, by omega, Hrev⟩
          case round =>
            clear Hrev
            obtain ⟨k, rfl, hk, HR⟩ := hrel
            by_cases hk2 : k < L.length / 2
            · have hki : (k : Int) < (L.length : Int) / 2 := by omega
              obtain ⟨j, hj⟩ : ∃ j : Nat, L.length - 1 - k = j := ⟨_, rfl⟩
              have hjI : (L.length : Int) - 1 - k = (j : Int) := by omega
              have hjL : j < L.length := by omega
              have ck := HR.out.c k (by omega)
              have cj := HR.out.c j hjL
              have fk := HR.out.f k
              have fj := HR.out.f j
              have hm := revI_mid L hk2
              rw [hj] at hm
              rw [hm.1] at ck
              rw [hm.2] at cj
              obtain ⟨x, hx⟩ : ∃ x, L.getD k 0 = x := ⟨_, rfl⟩
              obtain ⟨y, hy⟩ : ∃ y, L.getD j 0 = y := ⟨_, rfl⟩
              have HS := hid (HR.out.swap hk2)
              rw [hj, hx, hy] at HS
              rw [hx] at ck
              rw [hy] at cj
              have hjk : j ≠ k := by omega
              clear hm hx hy hj
              go_upto_region 22 with fail
              go_region
              have HSd : Hid (RevS g L _ (k + 1) (((wr.setCell ⟨g, k, none⟩ (.int .i64 y)).setCell ⟨g, j, none⟩ (.int .i64 x)).drew)) := ⟨HS.out.c, HS.out.f, HS.out.e.drew⟩
              clear HS ck cj fk fj
              go_wp2
              exact ⟨⟨k + 1, by go_num, by omega, HSd⟩, by simp [intOf]; omega⟩
            · obtain rfl : k = L.length / 2 := by omega
              have hki : ¬ ((L.length / 2 : Nat) : Int) < (L.length : Int) / 2 := by omega
              have HB8 := hid (HB9.out.trans (HR.out.e.below (fun b hb => by rw [hb]; exact Hg5.out) HB9.out.size))
              have hsl : Sl wr (some ⟨g, 0, none⟩) (ints XS) := .inr ⟨g, 0, rfl, Nat.lt_of_lt_of_le hgl HR.out.e.size, fun j hj => by
                rw [ints_length] at hj
                have hjL : j < L.length := by have := HXL.out; omega
                rw [Nat.zero_add, HR.out.c j hjL, revI_half L rfl hjL]
                have e := HXS.out
                subst e
                simp [ints]⟩
              have kd9 := (HB8.out.cell (p := ⟨bg, 0, none⟩) lg5).trans kd5
              have kf9 := (HB8.out.cell (p := ⟨bf, 0, none⟩) lf5).trans kf5
              have cI := hid (Ints_any ad (some ⟨g, 0, none⟩) cd cq XS XS wr (by have := HXL.out; omega) (by have := HXL.out; omega) (Hsd.out.below HB8.out) hsl)
              rw [decide_eq_true rfl, HXL.out] at cI
              rw [HXL.out] at kd9
              clear hsl
              go_wp2_with fail
              refine cI.out.mono ?_
              rintro e w8 ⟨rfl, hB8⟩
              have HBz := hid (HB5.out.trans ((HB8.out.trans (hB8.mono HB8.out.size)).mono HB5.out.size))
              clear hB8
              go_wp2
              go_ret
              exact ⟨rfl, HBz.out⟩
end Go.Proofs.YtcbanlgnanihhaaGreatDoor

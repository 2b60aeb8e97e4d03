/-
  What wide.Both and wide.Either compute.
-/
import Derived.Test.YtndfckpcbiecnaaWideSet2
import Derived.BigRegion
namespace Go.Proofs.Ytndfckpcbiecnaa
open Go.RowKit
set_option linter.unusedVariables false

def set7 (s : Nat → Nat) : List Value := [.int .u64 (s 0 : Nat), .int .u64 (s 1 : Nat), .int .u64 (s 2 : Nat), .int .u64 (s 3 : Nat), .int .u64 (s 4 : Nat), .int .u64 (s 5 : Nat), .int .u64 (s 6 : Nat)]
def sets (L : List (Nat → Nat)) : List Value := L.flatMap set7
theorem sets_length (L : List (Nat → Nat)) : (sets L).length = L.length * 7 := by
  induction L with
  | nil => rfl
  | cons s L ih =>
    have : sets (s :: L) = set7 s ++ sets L := by simp [sets]
    rw [this, List.length_append, ih, List.length_cons, Nat.succ_mul]; simp [set7]; omega
theorem sets_get : ∀ (L : List (Nat → Nat)) (k : Nat) (hk : k < L.length) (i : Nat), i < 7 → (sets L)[k * 7 + i]? = some (.int .u64 (L[k] i : Nat))
  | s :: L, 0, _, i, hi => by
    have e : sets (s :: L) = set7 s ++ sets L := by simp [sets]
    rw [e, Nat.zero_mul, Nat.zero_add, List.getElem?_append_left (by simpa [set7] using hi)]
    rcases seven hi with rfl | rfl | rfl | rfl | rfl | rfl | rfl <;> rfl
  | s :: L, k + 1, hk, i, hi => by
    have e : sets (s :: L) = set7 s ++ sets L := by simp [sets]
    have h7 : (set7 s).length = 7 := rfl
    rw [e, List.getElem?_append_right (by rw [h7]; omega), h7, show (k + 1) * 7 + i - 7 = k * 7 + i by omega, sets_get L k (by simpa using hk) i hi]; rfl
theorem Sl.atW {w : World} {a : Option Addr} {L : List (Nat → Nat)} (h : Sl w a (sets L)) {k : Nat} (hk : k < L.length) :
    ∃ b off, a = some ⟨b, off, none⟩ ∧ b < w.heap.size ∧ ∀ j (h : j < L.length) i, i < 7 → w.cell? ⟨b, off + j * 7 + i, none⟩ = some (.int .u64 (L[j] i : Nat)) := by
  obtain ⟨b, off, rfl, hlt, hc⟩ := Sl.at h (k := k * 7) (by rw [sets_length]; omega)
  refine ⟨b, off, rfl, hlt, fun j hj i hi => ?_⟩
  obtain ⟨h1, h2⟩ := List.getElem?_eq_some_iff.1 (sets_get L j hj i hi)
  rw [Nat.add_assoc, hc _ h1, h2]

def bothW (L : List (Nat → Nat)) (i : Nat) : Nat := L.foldl (fun x s => x &&& s i) (fullW i)
def someW (L : List (Nat → Nat)) (i : Nat) : Nat := L.foldl (fun x s => x ||| s i) 0
theorem take_snoc' {α : Type} (l : List α) (k : Nat) (h : k < l.length) : l.take (k + 1) = l.take k ++ [l[k]] := List.take_succ_eq_append_getElem h
theorem bothW_snoc (L : List (Nat → Nat)) (k : Nat) (hk : k < L.length) (i : Nat) : bothW (L.take (k + 1)) i = bothW (L.take k) i &&& L[k] i := by
  rw [take_snoc' L k hk, bothW, bothW, List.foldl_append]; rfl
theorem someW_snoc (L : List (Nat → Nat)) (k : Nat) (hk : k < L.length) (i : Nat) : someW (L.take (k + 1)) i = someW (L.take k) i ||| L[k] i := by
  rw [take_snoc' L k hk, someW, someW, List.foldl_append]; rfl
theorem bothW_lt (L : List (Nat → Nat)) (i : Nat) : bothW L i < 18446744073709551616 := by
  unfold bothW
  have : ∀ (L : List (Nat → Nat)) (m : Nat), m < 18446744073709551616 → L.foldl (fun x s => x &&& s i) m < 18446744073709551616 := by
    intro L
    induction L with
    | nil => intro m hm; exact hm
    | cons s L ih => intro m hm; exact ih _ (and_lt (b := s i) hm)
  exact this L _ (fullW_lt i)
theorem someW_lt (L : List (Nat → Nat)) (i : Nat) (h : ∀ s ∈ L, s i < 18446744073709551616) : someW L i < 18446744073709551616 := by
  unfold someW
  have : ∀ (L : List (Nat → Nat)) (m : Nat), (∀ s ∈ L, s i < 18446744073709551616) → m < 18446744073709551616 → L.foldl (fun x s => x ||| s i) m < 18446744073709551616 := by
    intro L
    induction L with
    | nil => intro m _ hm; exact hm
    | cons s L ih => intro m h hm; exact ih _ (fun t ht => h t (by simp [ht])) (or_lt hm (h s (by simp)))
  exact this L 0 h (by omega)

/-- what is kept through the loops: the result's block, the block of what is gathered -/
def BoK (w W : World) (b3 : Nat) (g : Nat → Nat) : Prop := WCells W b3 g ∧ WFree W b3 ∧ WCells W w.heap.size (fun _ => 0) ∧ WFree W w.heap.size ∧ Below w.heap.size w W ∧ w.heap.size < b3 ∧ b3 < W.heap.size
theorem BoK.below {w W W' : World} {b3 : Nat} {g : Nat → Nat} (h : BoK w W b3 g) (hb : Below W.heap.size W W') : BoK w W' b3 g := by
  obtain ⟨d1, d2, d3, d4, d5, d6, d7⟩ := h
  exact ⟨d1.below hb d7, d2.below hb d7, d3.below hb (by omega), d4.below hb (by omega), d5.trans (hb.mono (by omega)), d6, Nat.lt_of_lt_of_le d7 hb.size⟩
theorem BoK.set {w W : World} {b3 : Nat} {g : Nat → Nat} (h : BoK w W b3 g) {i : Nat} (hi : i < 7) (v : Nat) : BoK w (W.setCell ⟨b3, i, none⟩ (.int .u64 v)) b3 (fun j => if j = i then v else g j) := by
  obtain ⟨d1, d2, d3, d4, d5, d6, d7⟩ := h
  exact ⟨d1.set hi, d2.set _ _, fun j hj => (World.cell?_of_block (w := W) (a := ⟨w.heap.size, j, none⟩) (Below.heap_setCell _ _ _ _ (by simp only []; omega))).trans (d3 j hj), d4.set _ _, below_set d5 (by omega), d6, by simpa [go_sem] using d7⟩
theorem BoK.drew {w W : World} {b3 : Nat} {g : Nat → Nat} (h : BoK w W b3 g) : BoK w W.drew b3 g := ⟨h.1, h.2.1, h.2.2.1, h.2.2.2.1, h.2.2.2.2.1.drew, h.2.2.2.2.2⟩
theorem BoK.congr {w W : World} {b3 : Nat} {g t : Nat → Nat} (h : BoK w W b3 g) (e : ∀ i, i < 7 → g i = t i) : BoK w W b3 t := ⟨h.1.congr e, h.2⟩

set_option maxRecDepth 100000 in
set_option maxHeartbeats 3200000 in
theorem WBoth_any (a : Option Addr) (cap : Nat) (L : List (Nat → Nat)) (w : World) (hl : L.length ≤ 9223372036854775807) (hs : Sl w a (sets L)) (hb : ∀ s ∈ L, ∀ i, i < 7 → s i < 18446744073709551616) :
    Calls Try.prog 157 #[.slice a L.length cap] w fun e w' => e = .returned (wv (bothW L)) ∧ Below w.heap.size w w' := by
  have Hs := hid hs
  have Hb := hid hb
  have c1 := hid (fun W => WFull_any W)
  obtain ⟨W0, hW0⟩ : ∃ W0, w.alloc (.cells #[.int .u64 0, .int .u64 0, .int .u64 0, .int .u64 0, .int .u64 0, .int .u64 0, .int .u64 0] 26) = W0 := ⟨_, rfl⟩
  have q1 : W0.heap.size = w.heap.size + 1 := by rw [← hW0]; simp
  have q2 : Hid (Below w.heap.size w W0) := by rw [← hW0]; exact below_new (Below.refl _ _) (Nat.le_refl _)
  have q3 : Hid (WCells W0 w.heap.size (fun _ => 0)) := by
    rw [← hW0]
    intro i hi
    rcases seven hi with rfl | rfl | rfl | rfl | rfl | rfl | rfl <;> simp [go_sem]
  have q4 : Hid (WFree W0 w.heap.size) := fun i => by rw [← hW0]; simp [go_sem]
  have HW0 := hid hW0
  have f0 : Hid (∀ i, bothW (L.take 0) i = fullW i) := fun i => rfl
  obtain ⟨fu, hfu⟩ : ∃ f, fullW = f := ⟨_, rfl⟩
  rw [hfu] at c1 f0
  clear hs hb hW0 hfu
  go_enter Try.func157, Try.ntmps157
  go_wp2_with fail
  rw [HW0.out]
  refine (c1.out W0).mono ?_
  rintro e w1 ⟨rfl, hB1⟩
  obtain ⟨W2, hW2⟩ : ∃ W2, w1.alloc (.cells #[.int .u64 (fu 0 : Nat), .int .u64 (fu 1 : Nat), .int .u64 (fu 2 : Nat), .int .u64 (fu 3 : Nat), .int .u64 (fu 4 : Nat), .int .u64 (fu 5 : Nat), .int .u64 (fu 6 : Nat)] 26) = W2 := ⟨_, rfl⟩
  have s1 := hB1.size
  have hK2 : Hid (BoK w W2 w1.heap.size fu) := by
    have b12 : Below w1.heap.size w1 W2 := by rw [← hW2]; exact below_new (Below.refl _ _) (Nat.le_refl _)
    exact ⟨by rw [← hW2]; exact wcells_new w1 fu _, by rw [← hW2]; exact wfree_new w1 fu _, (q3.out.below hB1 (by omega)).below b12 (by omega), (q4.out.below hB1 (by omega)).below b12 (by omega), (q2.out.trans (hB1.mono (by omega))).trans (b12.mono (by omega)), by omega, by rw [← hW2]; simp⟩
  have HW2 := hid hW2
  clear hB1 hW2
  go_wp2_with fail
  rw [HW2.out]
  go_loopw [10] (fun i wr => ∃ k : Nat, i = .int .i64 k ∧ k ≤ L.length ∧ Hid (BoK w wr w1.heap.size (bothW (L.take k)))) (fun i _ => L.length - (intOf i).toNat)
  case atStart => exact ⟨0, rfl, by omega, hK2.out.congr (fun i hi => (f0.out i).symm)⟩
  case round =>
    obtain ⟨wo, rfl⟩ : ∃ wo : World, wo = wr := ⟨_, rfl⟩
    obtain ⟨k, rfl, hk, HK⟩ := hrel
    by_cases hlt : k < L.length
    · obtain ⟨b, off, rfl, hbk, hc⟩ := Hs.out.atW hlt
      have hcell := fun i hi => (HK.out.2.2.2.2.1.cell (p := ⟨b, off + k * 7 + i, none⟩) hbk).trans (hc k hlt i hi)
      have hsn := hid (fun i => bothW_snoc L k hlt i)
      have hsb := Hb.out L[k] (List.getElem_mem hlt)
      obtain ⟨s, hsk⟩ : ∃ s, L[k] = s := ⟨_, rfl⟩
      rw [hsk] at hcell hsn hsb
      have e0 := hcell 0 (by omega)
      have e1 := hcell 1 (by omega)
      have e2 := hcell 2 (by omega)
      have e3 := hcell 3 (by omega)
      have e4 := hcell 4 (by omega)
      have e5 := hcell 5 (by omega)
      have e6 := hcell 6 (by omega)
      rw [Nat.add_zero] at e0
      have Hsb := hid hsb
      obtain ⟨W3, hW3⟩ : ∃ W3, wo.alloc (.cells #[.int .u64 (s 0 : Nat), .int .u64 (s 1 : Nat), .int .u64 (s 2 : Nat), .int .u64 (s 3 : Nat), .int .u64 (s 4 : Nat), .int .u64 (s 5 : Nat), .int .u64 (s 6 : Nat)] 26) = W3 := ⟨_, rfl⟩
      have b3 : Below wo.heap.size wo W3 := by rw [← hW3]; exact below_new (Below.refl _ _) (Nat.le_refl _)
      have k3 : Hid (BoK w W3 w1.heap.size (bothW (L.take k))) := HK.out.below b3
      have k5 : Hid (WCells W3 wo.heap.size s) := by rw [← hW3]; exact wcells_new wo s _
      have lt3 : w1.heap.size < wo.heap.size := HK.out.2.2.2.2.2.2
      have lt4 : wo.heap.size < W3.heap.size := by rw [← hW3]; simp
      have HW3 := hid hW3
      have HBl := hid (fun i => bothW_lt (L.take k) i)
      obtain ⟨g, hg⟩ : ∃ g, bothW (L.take k) = g := ⟨_, rfl⟩
      have Hg := hid hg
      rw [hg] at k3 hsn HBl
      clear hc hcell hsk hsb b3 hW3 hg
      go_wp2_with fail
      rw [HW3.out]
      go_loopw [14] (fun v wq => ∃ i : Nat, v = .int .i64 i ∧ i ≤ 7 ∧ Hid (BoK w wq w1.heap.size (fun j => if j < i then bothW (L.take (k + 1)) j else g j) ∧ WCells wq wo.heap.size s)) (fun v _ => 7 - (intOf v).toNat)
      case atStart => exact ⟨0, rfl, by omega, k3.out.congr (fun j hj => by simp), k5.out⟩
      case round =>
        obtain ⟨i, rfl, hi, HJ⟩ := hrel
        by_cases hi7 : i < 7
        · have c1 : wr.cell? ⟨w1.heap.size, i, none⟩ = some (.int .u64 (g i : Nat)) := by have := HJ.out.1.1 i hi7; simpa using this
          have c2 := HJ.out.2 i hi7
          have c3 := HJ.out.1.2.1 i
          have hand := bits_and (HBl.out i) (Hsb.out i hi7)
          rw [← hsn.out i] at hand
          have done : ∀ v, v = ((bothW (L.take (k + 1)) i : Nat) : Int) → BoK w ((wr.setCell ⟨w1.heap.size, i, none⟩ (.int .u64 v)).drew) w1.heap.size (fun j => if j < i + 1 then bothW (L.take (k + 1)) j else g j) ∧ WCells ((wr.setCell ⟨w1.heap.size, i, none⟩ (.int .u64 v)).drew) wo.heap.size s := by
            rintro v rfl
            refine ⟨BoK.drew ((HJ.out.1.set hi7 (bothW (L.take (k + 1)) i)).congr (fun j hj => ?_)), fun j hj => (World.cell?_of_block (w := wr) (a := ⟨wo.heap.size, j, none⟩) (Below.heap_setCell _ _ _ _ (by simp only []; omega))).trans (HJ.out.2 j hj)⟩
            by_cases e : j = i
            · subst e; simp
            · have : (j < i + 1) = (j < i) := by simp; omega
              simp [e, this]
          have Done := hid done
          have Hand := hid hand
          clear done hand
          go_wp2
          go_region
          go_wp2
          obtain ⟨d1, d2⟩ := Done.out (bits .and .u64 (g i : Nat) (s i : Nat)) Hand.out
          exact ⟨⟨i + 1, by go_num, by omega, d1, d2⟩, by simp [intOf]; omega⟩
        · obtain rfl : i = 7 := by omega
          have hn : Hid (BoK w wr w1.heap.size (bothW (L.take (k + 1)))) := HJ.out.1.congr (fun j hj => by simp [hj])
          go_wp2
          exact ⟨⟨k + 1, by go_num, by omega, hn.out⟩, by simp [intOf]; omega⟩
    · have hke : L.take k = L := List.take_of_length_le (by omega)
      rw [hke] at HK
      obtain ⟨d1, d2, d3, d4, d5, d6, d7⟩ := HK.out
      obtain ⟨r0, r1, r2, r3, r4, r5, r6⟩ := d1.all
      obtain ⟨z0, z1, z2, z3, z4, z5, z6⟩ := d3.all
      have f0 := d4 0
      have f1 := d4 1
      have f2 := d4 2
      have f3 := d4 3
      have f4 := d4 4
      have f5 := d4 5
      have f6 := d4 6
      have D5 := hid d5
      clear hke d1 d2 d3 d4 d5 HK
      go_wp2
      refine bodyPost_ret (v := wv (bothW L)) (by simp [results, Try.results157, go_sem, z0, z1, z2, z3, z4, z5, z6]) rfl ⟨rfl, ?_⟩
      exact below_set (below_set (below_set (below_set (below_set (below_set (below_set D5.out (Nat.le_refl _)) (Nat.le_refl _)) (Nat.le_refl _)) (Nat.le_refl _)) (Nat.le_refl _)) (Nat.le_refl _)) (Nat.le_refl _)

end Go.Proofs.Ytndfckpcbiecnaa

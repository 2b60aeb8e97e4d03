/-
  A disc's Len, and feriaref15.Both.
-/
import Derived.Test.YtchceegpbfecaaaDoorDiscJoin
import Derived.Test.YtchceegpbfecaaaDoorDiscRef2
namespace Go.Proofs.YtchceegpbfecaaaDoor
open Go.RowKit
set_option linter.unusedVariables false

set_option maxRecDepth 100000 in
set_option maxHeartbeats 1600000 in
theorem DLen_any (b : Nat) (f : Nat → Nat) (w : World) (hc : DC w b f) (hf : ∀ i, i < 1350 → f i < 18446744073709551616) :
    Calls Tryd.prog 13 #[.pointer (some ⟨b, 0, none⟩)] w fun e w' => e = .returned (.int .i64 (lenW f 1350 : Nat)) ∧ w = w' := by
  have c2 := hid (fun i hi W => Len_any (f i) W (hf i hi))
  obtain ⟨N, hN⟩ : ∃ N, lenW f 1350 = N := ⟨_, rfl⟩
  have hl := hid (fun n => lenW_le f n)
  have HC := hid hc
  have HN : Hid (∀ k, k = 1350 → lenW f k = N) := fun k hk => by rw [hk]; exact hN
  rw [hN]
  clear hN hc hf
  go_enter Tryd.func13, Tryd.ntmps13
  go_wp2
  go_loopw [3, 7] (fun m i wr => ∃ (k : Nat) (x : Nat), i = .int .i64 k ∧ k ≤ 1350 ∧ m = .int .i64 x ∧ Hid (x = lenW f k) ∧ wr = w) (fun _ i _ => 1350 - (intOf i).toNat)
  case atStart => exact ⟨0, 0, rfl, by omega, rfl, (rfl : 0 = lenW f 0), rfl⟩
  case round =>
    obtain ⟨k, x, rfl, hk, rfl, hx, rfl⟩ := hrel
    have h1 := hl.out k
    by_cases hlt : k < 1350
    · have h2 := hl.out (k + 1)
      have e1 := HC.out k hlt
      have hs1 := lenW_succ f k
      have C2 := hid (c2.out k hlt wr)
      obtain ⟨y, hy⟩ : ∃ x, Lib.popAux 64 (f k) = x := ⟨_, rfl⟩
      rw [hy] at hs1 C2
      rw [hs1] at h2
      rw [← hx.out] at h1 h2
      have hs2 : Hid (x + y = lenW f (k + 1)) := by show _ = _; rw [hs1, hx.out]
      have hkI : (k : Int) < 1350 := by omega
      clear hy hs1
      go_wp2_with fail
      refine C2.out.mono ?_
      rintro e w' ⟨rfl, rfl⟩
      go_wp2
      exact ⟨⟨k + 1, x + y, by go_num, by omega, by simp, hs2, trivial⟩, by simp [intOf]; omega⟩
    · have hk7 : Hid (x = N) := by show _ = _; rw [hx.out]; exact HN.out k (by omega)
      rw [← hx.out] at h1
      go_wp2
      go_ret
      exact ⟨by rw [hk7.out]; rfl, rfl⟩

/-- what is in both lists, as the document has it -/
def bothI (l m : List Int) : List Int := l.filter (fun x => decide (x ∈ m))
theorem bothI_snoc (l m : List Int) (k : Nat) (h : k < l.length) : bothI (l.take (k + 1)) m = bothI (l.take k) m ++ (if l[k] ∈ m then [l[k]] else []) := by
  rw [bothI, take_snoc l k h, List.filter_append]
  congr 1
  by_cases e : l[k] ∈ m
  · simp [e]
  · simp [e]
theorem bothI_len (l m : List Int) : (bothI l m).length ≤ l.length := List.length_filter_le _ _

set_option maxRecDepth 100000 in
set_option maxHeartbeats 1600000 in
theorem RBoth15_any (a b : Option Addr) (cap cap2 : Nat) (l m : List Int) (w : World) (hl : l.length ≤ 100000) (hs : Sl w a (ints l)) (hm : m.length ≤ 9223372036854775807) (hs2 : Sl w b (ints m)) :
    Calls Tryd.prog 9 #[.slice a l.length cap, .slice b m.length cap2] w fun e w' => ∃ v, e = .returned v ∧ w'.ownsRow w.heap.size 3 1 v (bothI l m).length (ints (bothI l m)) ∧ Below w.heap.size w w' := by
  have Hs := hid hs
  have c1 := hid (fun x W (h : Below w.heap.size w W) => RHas15_any b cap2 m x W hm (hs2.below h))
  have hlI : (l.length : Int) ≤ 100000 := by omega
  clear hs hl hm hs2
  go_enter Tryd.func9, Tryd.ntmps9
  go_wp2
  go_loopw [5, 6] (fun v i wr => ∃ (k q cap : Nat) (a : Option Addr), i = .int .i64 k ∧ k ≤ l.length ∧ v = .slice a q cap ∧ Hid (q = (bothI (l.take k) m).length) ∧ q ≤ k ∧ Hid (wr.ownsRow w.heap.size 3 1 (.slice a q cap) q (ints (bothI (l.take k) m)) ∧ Below w.heap.size w wr) ∧ w.heap.size ≤ wr.heap.size) (fun _ i _ => l.length - (intOf i).toNat)
  case atStart => exact ⟨0, 0, 0, none, rfl, by omega, rfl, rfl, Nat.le_refl _, ⟨World.ownsRow_nil _ _ _ _, Below.refl _ _⟩, Nat.le_refl _⟩
  case round =>
    obtain ⟨k, q, cap', a', rfl, hk, rfl, hq, hqk, HI, hsz⟩ := hrel
    by_cases hlt : k < l.length
    · obtain ⟨g, off, rfl, hb, hc⟩ := Hs.out.atInt hlt
      have e1 := (HI.out.2.cell (p := ⟨g, off + k, none⟩) hb).trans (hc k hlt)
      have ht := hid (bothI_snoc l m k hlt)
      obtain ⟨y, hy⟩ : ∃ y, l[k] = y := ⟨_, rfl⟩
      rw [hy] at e1 ht
      have d1 := hid (c1.out y wr HI.out.2)
      clear hc hy
      by_cases he : y ∈ m
      · rw [decide_eq_true he] at d1
        rw [if_pos he] at ht
        clear he
        go_wp2_with fail
        refine d1.out.mono ?_
        rintro e w' ⟨rfl, rfl⟩
        go_wp2_with (at_builtin; refine app1 eInt (.tmp 19) (.tmp 24) rfl rfl rfl rfl rfl HI.out.1 rfl (by omega) (by omega) hsz ?_)
        intro a2 cap2 w2 hown2 hg2 hb2 hf2
        rw [← ints_one, ← ints_append, ← ht.out] at hown2
        have HI2 : Hid (w2.ownsRow w.heap.size 3 1 (.slice a2 (q + 1) cap2) (q + 1) (ints (bothI (l.take (k + 1)) m)) ∧ Below w.heap.size w w2) := ⟨hown2, HI.out.2.trans hb2⟩
        have hsz2 : w.heap.size ≤ w2.heap.size := Nat.le_trans hsz hb2.size
        clear hown2 hg2 hb2 hf2
        go_wp2
        exact ⟨⟨k + 1, q + 1, cap2, a2, by go_num, by omega, rfl, by rw [ht.out, List.length_append, ← hq.out]; rfl, by omega, HI2.out, hsz2⟩, by simp [intOf]; omega⟩
      · rw [decide_eq_false he] at d1
        rw [if_neg he, List.append_nil] at ht
        clear he
        go_wp2_with fail
        refine d1.out.mono ?_
        rintro e w' ⟨rfl, rfl⟩
        go_wp2
        exact ⟨⟨k + 1, q, cap', a', by go_num, by omega, rfl, by rw [ht.out]; exact hq.out, by omega, by rw [ht.out]; exact HI.out, hsz⟩, by simp [intOf]; omega⟩
    · have hke : l.take k = l := List.take_of_length_le (by omega)
      rw [hke] at hq HI
      have Hq := hid hq.out
      clear hke
      go_wp2
      go_ret
      exact ⟨_, rfl, by rw [← Hq.out]; exact HI.out.1, HI.out.2⟩
end Go.Proofs.YtchceegpbfecaaaDoor

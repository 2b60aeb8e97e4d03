/-
  What cover.Of answers: the pieces of numbers that rise and lie in 0 .. 9999, each the one with which the rest begins; else nil.
-/
import Derived.Test.YtdggflkkojmabaaDoorDovFirst
namespace Go.Proofs.YtdggflkkojmabaaDoor.Cov
open Go.RowKit
set_option linter.unusedVariables false

theorem ePiece : El Tryd.prog 59 111 (.agg #[.int .i64 0, .int .i64 0, .int .i64 0]) 3 24 := ⟨Tryd.underlying59, by kernel_rfl, by kernel_rfl, by decide⟩

/-- ps are the pieces of l -/
def Decomp : List (Int × Int × Int) → List Int → Prop
  | [], l => l = []
  | p :: ps, l => 0 < l.length ∧ ∃ n, FirstIs l p n ∧ Decomp ps (l.drop n)

theorem FirstIs.pos {l p n} (h : FirstIs l p n) : 1 ≤ n ∧ n ≤ l.length := by
  obtain ⟨m, hm, hl, _, _, h⟩ := h
  rcases h with ⟨_, _, rfl⟩ | ⟨_, _, rfl⟩ <;> omega

theorem decomp_snoc {l : List Int} {ps : List (Int × Int × Int)} {k : Nat} (h : ∀ qs, Decomp qs (l.drop k) → Decomp (ps ++ qs) l) {p : Int × Int × Int} {n : Nat} (hk : k < l.length) (hp : FirstIs (l.drop k) p n) :
    ∀ qs, Decomp qs (l.drop (k + n)) → Decomp (ps ++ [p] ++ qs) l := by
  intro qs hq
  rw [List.append_assoc]
  refine h (p :: qs) ⟨by simp; omega, n, hp, ?_⟩
  rwa [List.drop_drop]

/-- the pieces, or nil -/
def OfIs (l : List Int) (ps : List (Int × Int × Int)) : Prop := (May l ∧ Decomp ps l) ∨ (¬ May l ∧ ps = [])

theorem _root_.Go.Proofs.YtdggflkkojmabaaDoor.Sl.drop {w : World} {b off : Nat} {cs : List Value} (h : Sl w (some ⟨b, off, none⟩) cs) (k : Nat) : Sl w (some ⟨b, off + k, none⟩) (cs.drop k) := by
  rcases h with h | ⟨b', off', e, hb, hc⟩
  · subst h; exact .inl (by simp)
  · cases e
    refine .inr ⟨b, off + k, rfl, hb, fun j hj => ?_⟩
    have := hc (k + j) (by simp at hj; omega)
    rw [Nat.add_assoc, this]
    simp

theorem _root_.Go.Proofs.YtdggflkkojmabaaDoor.Sl.sliced {w : World} {b off : Nat} {cs : List Value} (h : Sl w (some ⟨b, off, none⟩) cs) (k c : Nat) (hc : cs.length ≤ c) (a : Option Addr) (ha : ¬ c = k → a = some ⟨b, off + k, none⟩) : Sl w a (cs.drop k) := by
  by_cases hck : c = k
  · exact .inl (List.drop_of_length_le (by omega))
  · rw [ha hck]; exact h.drop k

set_option maxHeartbeats 800000 in
theorem Of_any (a : Option Addr) (cap : Nat) (l : List Int) (w : World) (hl : l.length ≤ 1000000000) (hcap : l.length ≤ cap) (hs : Sl w a (ints l)) :
    Calls Tryd.prog 47 #[.slice a l.length cap] w fun e w' => ∃ v ps, e = .returned v ∧ OfIs l ps ∧ w'.ownsRow w.heap.size 111 3 v ps.length (trips ps) ∧ Below w.heap.size w w' := by
  have hmc := may_any a cap l w (by omega) hs
  by_cases hmay : May l
  · have hbd := hid hmay.1
    have hM := hid hmay
    clear hmay
    have hmc' : Calls Tryd.prog 87 #[.slice a l.length cap] w fun e w' => e = .returned (.bool true) ∧ Below w.heap.size w w' := hmc.mono fun e w' ⟨⟨b, he, hb⟩, h2⟩ => ⟨by rw [he, hb.2 hM.out], h2⟩
    have Hmc := hid hmc'
    clear hmc hmc'
    go_enter Tryd.func47, Tryd.ntmps47
    go_wp2_with (go_at_call 87; refine Hmc.out.mono ?_; rintro e w1 ⟨rfl, hb1⟩)
    go_loopw [0, 3] (fun n v wr => ∃ (k : Nat) (a1 a2 : Option Addr) (c1 c2 n1 : Nat) (ps : List (Int × Int × Int)), k ≤ l.length ∧ n1 + k = l.length ∧ n1 ≤ c1 ∧ n = .slice a1 n1 c1 ∧ v = .slice a2 ps.length c2 ∧ ps.length ≤ k ∧
        Sl w a1 (ints (l.drop k)) ∧ wr.ownsRow w.heap.size 111 3 (.slice a2 ps.length c2) ps.length (trips ps) ∧ Below w.heap.size w wr ∧ (∀ qs, Decomp qs (l.drop k) → Decomp (ps ++ qs) l)) (fun n _ _ => slLen n)
    case atStart => exact ⟨0, a, none, cap, 0, l.length, [], by omega, rfl, hcap, rfl, rfl, by simp, hs, World.ownsRow_nil _ _ _ _, hb1, fun qs h => h⟩
    case round =>
      obtain ⟨k, a1, a2, c1, c2, n1, ps, hk, hn1, hc1, rfl, rfl, hps, hsl, hown, hB, hdec⟩ := hrel
      have Hdec := hid hdec
      clear hdec
      by_cases hn0 : 0 < n1
      · have hlen : (l.drop k).length = n1 := by simp; omega
        have hf := first_any a1 c1 (l.drop k) wr (by omega) (by omega) (fun x hx => hbd.out x (List.mem_of_mem_drop hx)) (hsl.below hB)
        rw [hlen] at hf
        have Hf := hid hf
        have Hlen := hid hlen
        have Hn1 := hid hn1
        have hsz := hB.size
        have hpl : ps.length ≤ 1000000000 := by omega
        clear hf hlen hn1
        obtain ⟨b, off, rfl, _, _⟩ := hsl.atInt (l := l.drop k) (k := 0) (by rw [Hlen.out]; exact hn0)
        go_wp2_with fail
        refine Hf.out.mono ?_
        rintro e w2 ⟨p, n, rfl, hp, hb2⟩
        have hB2 := hB.trans (hb2.mono hsz)
        have hp2 := hp.pos
        rw [Hlen.out] at hp2
        obtain ⟨hp3, hp4⟩ := hp2
        have hown2 := owns_below hown hb2 (Nat.le_refl _)
        have hsz2 := hB2.size
        have hownW := hown2.alloc (.cells #[.int .i64 p.1, .int .i64 p.2.1, .int .i64 p.2.2] 111)
        have hBW := below_new (o := .cells #[.int .i64 p.1, .int .i64 p.2.1, .int .i64 p.2.2] 111) hB2 hsz2
        clear hown hown2 hb2 hB
        go_wp2_with (at_builtin; refine appLit ePiece (.tmp 17) (.tmp 19) rfl rfl rfl rfl (by simp) hownW rfl (trip_one p) (by omega) (by omega) (by simp; omega) ?_)
        intro a3 c3 w3 hown3 hg3 hb3 hf3
        have hB3 := hBW.trans hb3
        have hd := hid (decomp_snoc Hdec.out (by have := Hn1.out; omega) hp)
        have ht : trips (ps ++ [p]) = trips ps ++ [.int .i64 p.1, .int .i64 p.2.1, .int .i64 p.2.2] := by rw [trips_append]; rfl
        rw [← ht] at hown3
        have hk2 : k + n ≤ l.length := by have := Hn1.out; omega
        have hlp : ps.length + 1 = (ps ++ [p]).length := by simp
        have hfin : ∀ a4 : Option Addr, (¬ c1 = n → a4 = some ⟨b, off + n, none⟩) → Sl w a4 (ints (l.drop (k + n))) := fun a4 h4 => by
          have := Sl.sliced hsl n c1 (by rw [ints_length, Hlen.out]; exact hc1) a4 h4
          rwa [ints, ← List.map_drop, List.drop_drop] at this
        have Hfin := hid hfin
        have Hlp := hid hlp
        have Hown := hid hown3
        clear hown3 hownW hg3 hb3 hf3 hBW hB2 hfin hlp ht hp
        by_cases hcn : c1 = n
        · obtain rfl : n1 = n := by omega
          subst hcn
          go_wp2
          refine ⟨⟨k + c1, _, a3, _, c3, 0, ps ++ [p], hk2, by have := Hn1.out; omega, Nat.le_refl _, rfl, by rw [← Hlp.out], by rw [← Hlp.out]; omega, Hfin.out _ (fun h => absurd rfl h), by rw [← Hlp.out]; exact Hown.out, hB3, hd.out⟩, by simp [slLen]; omega⟩
        · go_wp2
          refine ⟨⟨k + n, _, a3, _, c3, n1 - n, ps ++ [p], hk2, by have := Hn1.out; omega, by omega, rfl, by rw [← Hlp.out], by rw [← Hlp.out]; omega, Hfin.out _ (fun h => rfl), by rw [← Hlp.out]; exact Hown.out, hB3, hd.out⟩, by simp [slLen]; omega⟩
      · obtain rfl : n1 = 0 := by omega
        go_wp2
        go_ret
        refine ⟨_, ps, rfl, .inl ⟨hM.out, ?_⟩, hown, hB⟩
        have := Hdec.out [] (by simp [Decomp]; omega)
        simpa using this
  · have hM := hid hmay
    clear hmay
    have hmc' : Calls Tryd.prog 87 #[.slice a l.length cap] w fun e w' => e = .returned (.bool false) ∧ Below w.heap.size w w' := hmc.mono fun e w' ⟨⟨b, he, hb⟩, h2⟩ => ⟨by
      cases b with
      | false => exact he
      | true => exact absurd (hb.1 rfl) hM.out, h2⟩
    have Hmc := hid hmc'
    clear hmc hmc'
    go_enter Tryd.func47, Tryd.ntmps47
    go_wp2_with (go_at_call 87; refine Hmc.out.mono ?_; rintro e w1 ⟨rfl, hb1⟩)
    go_ret
    exact ⟨_, [], rfl, .inr ⟨hM.out, rfl⟩, World.ownsRow_nil _ _ _ _, hb1⟩
end Go.Proofs.YtdggflkkojmabaaDoor.Cov

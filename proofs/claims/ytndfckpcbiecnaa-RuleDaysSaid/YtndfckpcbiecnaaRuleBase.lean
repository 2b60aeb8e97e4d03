/-
  Rules in memory; the N of a rule's weekdays; what is great.
-/
import Derived.Test.YtndfckpcbiecnaaRuleNs
import Derived.Test.YtndfckpcbiecnaaClMayFn
namespace Go.Proofs.Ytndfckpcbiecnaa
open Go.RowKit
set_option linter.unusedVariables false

/-- a rule -/
structure Ru where
  st : Int
  fq : Int
  iv : Int
  co : Int
  un : Int
  l5 : List Int
  a5 : Option Addr
  c5 : Nat
  l6 : List Int
  a6 : Option Addr
  c6 : Nat
  l7 : List (Int × Int)
  a7 : Option Addr
  c7 : Nat
  l8 : List Int
  a8 : Option Addr
  c8 : Nat
  l9 : List Int
  a9 : Option Addr
  c9 : Nat
  lx : List Int
  ax : Option Addr
  cx : Nat
abbrev ruList (r : Ru) : List Value := [.int .i64 r.st, .int .i64 r.fq, .int .i64 r.iv, .int .i64 r.co, .int .i64 r.un, .slice r.a5 r.l5.length r.c5, .slice r.a6 r.l6.length r.c6, .slice r.a7 r.l7.length r.c7, .slice r.a8 r.l8.length r.c8, .slice r.a9 r.l9.length r.c9, .slice r.ax r.lx.length r.cx]
abbrev ruv (r : Ru) : Value := .agg (ruList r).toArray
/-- its lists, as they lie, and how long they may be -/
structure RuS (W : World) (r : Ru) : Prop where
  s5 : Sl W r.a5 (ints r.l5)
  s6 : Sl W r.a6 (ints r.l6)
  s7 : Sl W r.a7 (nths r.l7)
  s8 : Sl W r.a8 (ints r.l8)
  s9 : Sl W r.a9 (ints r.l9)
  sx : Sl W r.ax (ints r.lx)
theorem RuS.below {W W' : World} {r : Ru} (h : RuS W r) (hb : Below W.heap.size W W') : RuS W' r :=
  ⟨h.s5.below hb, h.s6.below hb, h.s7.below hb, h.s8.below hb, h.s9.below hb, h.sx.below hb⟩
structure Ru.Sm (r : Ru) (m : Nat) : Prop where
  n5 : r.l5.length ≤ m
  n6 : r.l6.length ≤ m
  n7 : r.l7.length ≤ m
  n8 : r.l8.length ≤ m
  n9 : r.l9.length ≤ m
  nx : r.lx.length ≤ m
def greatB (r : Ru) : Bool := decide (600 < r.l5.length + r.l6.length + r.l7.length + r.l8.length + r.l9.length + r.lx.length)
theorem great_sm {r : Ru} (h : greatB r = false) : r.Sm 600 := by
  rw [greatB, decide_eq_false_iff_not] at h
  exact ⟨by omega, by omega, by omega, by omega, by omega, by omega⟩
set_option maxHeartbeats 800000 in
theorem Great_any (r : Ru) (w : World) (hm : r.Sm 281474976710656) : Calls Try.prog 18 #[ruv r] w fun e w' => e = .returned (.bool (greatB r)) ∧ Below w.heap.size w w' := by
  obtain ⟨n5, n6, n7, n8, n9, nx⟩ := hm
  have HB : Hid (Below w.heap.size w (w.alloc (.cells (ruList r).toArray 34))) := below_new (Below.refl _ _) (Nat.le_refl _)
  have hd : Hid (greatB r = decide ((600 : Int) < (r.l5.length : Int) + r.l6.length + r.l7.length + r.l8.length + r.l9.length + r.lx.length)) := by
    show _ = _
    rw [greatB, decide_eq_decide]; omega
  rw [hd.out]
  clear hd
  go_enter Try.func18, Try.ntmps18
  go_wp2
  go_ret
  exact ⟨rfl, HB.out⟩
abbrev nsL (r : Ru) : List Int := r.l7.map (·.1)
theorem map_snoc (l : List (Int × Int)) (k : Nat) (h : k < l.length) : ints ((l.map (·.1)).take (k + 1)) = ints ((l.map (·.1)).take k) ++ [.int .i64 l[k].1] := by
  rw [take_snoc (l.map (·.1)) k (by rw [List.length_map]; exact h), ints_append, List.getElem_map]; rfl
set_option maxHeartbeats 1600000 in
theorem Ns_any (a : Option Addr) (cap : Nat) (l : List (Int × Int)) (w : World) (hl : l.length ≤ 1000000) (hs : Sl w a (nths l)) :
    Calls Try.prog 139 #[.slice a l.length cap] w fun e w' => ∃ v, e = .returned v ∧ w'.ownsRow w.heap.size 3 1 v l.length (ints (l.map (·.1))) ∧ Below w.heap.size w w' := by
  have Hs := hid hs
  have hlI : (l.length : Int) ≤ 1000000 := by omega
  have Hsn := hid (map_snoc l)
  have Hln : Hid ((l.map (·.1)).length = l.length) := List.length_map _
  obtain ⟨m, hm⟩ : ∃ m, l.map (·.1) = m := ⟨_, rfl⟩
  rw [hm] at Hsn Hln ⊢
  clear hs hm
  go_enter Try.func139, Try.ntmps139
  go_wp2
  go_loopw [3, 4] (fun v i wr => ∃ (k cp : Nat) (ad : Option Addr), i = .int .i64 k ∧ k ≤ l.length ∧ v = .slice ad k cp ∧ wr.ownsRow w.heap.size 3 1 (.slice ad k cp) k (ints (m.take k)) ∧ Below w.heap.size w wr) (fun _ i _ => l.length - (intOf i).toNat)
  case atStart => exact ⟨0, 0, none, rfl, by omega, rfl, World.ownsRow_nil _ _ _ _, Below.refl _ _⟩
  case round =>
    obtain ⟨k, cp, ad, rfl, hk, rfl, hown, hB⟩ := hrel
    by_cases hlt : k < l.length
    · obtain ⟨b, off, rfl, hb, hc⟩ := Hs.out.atNth hlt
      have e1 := (hB.cell (p := ⟨b, off + k * 2, none⟩) hb).trans (hc k hlt).1
      have ht := hid (Hsn.out k hlt)
      have hsz := hB.size
      obtain ⟨y, hy⟩ : ∃ y, l[k] = y := ⟨_, rfl⟩
      rw [hy] at e1 ht
      clear hc hy
      go_wp2_with (at_builtin; refine app1 eInt (.tmp 11) (.tmp 17) rfl rfl rfl rfl rfl hown rfl (by omega) (by omega) hsz ?_)
      intro a' cap' w' hown2 hg2 hb2 hf2
      have hB2 := hB.trans hb2
      rw [← ht.out] at hown2
      go_wp2
      exact ⟨⟨k + 1, cap', a', by go_num, by omega, rfl, hown2, hB2⟩, by simp [intOf]; omega⟩
    · have hke : k = l.length := by omega
      have Hke := hid hke
      clear hke
      go_wp2
      go_ret
      refine ⟨_, rfl, ?_, hB⟩
      have h := hown
      rw [Hke.out, ← Hln.out, List.take_length, Hln.out] at h
      rw [Hke.out]
      exact h
end Go.Proofs.Ytndfckpcbiecnaa

/-
  ferialaw18.RollGoes answers true for every clauses, days and way.
  Lists of uint32, and two of them, that came in, as a row hands them over.
-/
import Derived.Test.YtcbanlgnanihhaaGreatDoorQ7ffbe0
import Derived.Test.YtcbanlgnanihhaaGreatDoorQ9f5099
namespace Go.Proofs.YtcbanlgnanihhaaGreatDoor
open Go.RowKit Go.Maps
set_option linter.unusedVariables false

theorem Goes_any (a : Option Addr) (cap : Nat) (l : List Cl) (fr many : Int) (back : Bool) (w : World) (hl : l.length ≤ 1000) (hlc : l.length ≤ cap) (hs : Sl w a (cls l)) (hno : a = none → cap = 0) (hok : ∀ c ∈ l, c.Ok) (f0 : 0 ≤ fr) (f1 : fr < 146097) (m0 : 0 ≤ many) (m1 : many < 40) (hT : Tab w) :
    Calls Tryz.prog 30 #[.slice a l.length cap, .int .i64 fr, .int .i64 many, .bool back] w fun e w' => e = .returned (.bool true) ∧ Below w.heap.size w w' := by
  cases back
  · exact GoesA_any a cap l fr many w hl hlc hs hno hok f0 f1 m0 m1 hT
  · exact GoesB_any a cap l fr many w hl hlc hs hno hok f0 f1 m0 m1 hT
set_option maxRecDepth 100000 in
set_option maxHeartbeats 3200000 in
theorem RollGoes_walk (a : Option Addr) (cap : Nat) (l : List Cl) (x y : Nat) (back : Bool) (w : World) (hl : l.length ≤ 9223372036854775807) (hlc : l.length ≤ cap) (hs : Sl w a (cls l)) (hno : a = none → cap = 0) (hok : ∀ c ∈ l, c.Ok) (hx : x < 4294967296) (hy : y < 4294967296) (hT : Tab w) :
    Calls Tryz.prog 6 #[.slice a l.length cap, .agg #[.int .u32 (x : Nat), .int .u32 (y : Nat)], .bool back] w fun e w' => e = .returned (.bool true) ∧ Below w.heap.size w w' := by
  have cL := hid (fun W (hB : Below w.heap.size w W) => Lives18_any W (hT.later hB))
  obtain ⟨W1, hW1⟩ : ∃ W1, w.alloc (.cells #[.int .u32 (x : Nat), .int .u32 (y : Nat)] 66) = W1 := ⟨_, rfl⟩
  have hB1 : Below w.heap.size w W1 := by rw [← hW1]; exact below_new (Below.refl _ _) (Nat.le_refl _)
  have k0 : W1.cell? ⟨w.heap.size, 0, none⟩ = some (.int .u32 (x : Nat)) := by rw [← hW1]; simp [go_sem]
  have k1 : W1.cell? ⟨w.heap.size, 1, none⟩ = some (.int .u32 (y : Nat)) := by rw [← hW1]; simp [go_sem]
  have HW1 := hid hW1
  have HB1 := hid hB1
  clear hW1
  by_cases h20 : 20 < l.length
  · have cL0 := hid (cL.out W1 hB1)
    clear hs hno hok hT hB1 k0 k1
    go_enter Tryz.func6, Tryz.ntmps6
    go_upto_region 1 with fail
    rw [HW1.out]
    go_wp2_with fail
    refine cL0.out.mono ?_
    rintro e w' ⟨rfl, hB⟩
    have HB := hid (HB1.out.trans (hB.mono HB1.out.size))
    clear hB
    go_wp2
    go_ret
    exact ⟨rfl, HB.out⟩
  · have n0 : 0 ≤ (x : Int) % 146097 := by omega
    have n1 : (x : Int) % 146097 < 146097 := by omega
    have m0 : 0 ≤ (y : Int) % 40 := by omega
    have m1 : (y : Int) % 40 < 40 := by omega
    have cG := hid (Goes_any a cap l ((x : Int) % 146097) ((y : Int) % 40) back W1 (by omega) hlc (hs.below hB1) hno hok n0 n1 m0 m1 (hT.later hB1))
    clear hs hno hok hT hB1 n0 n1 m0 m1
    go_enter Tryz.func6, Tryz.ntmps6
    go_upto_region 1 with fail
    rw [HW1.out]
    go_wp2_with fail
    refine cG.out.mono ?_
    rintro e w2 ⟨rfl, hB2⟩
    have HB2 := hid (HB1.out.trans (hB2.mono HB1.out.size))
    have cL2 := hid (cL.out w2 HB2.out)
    clear hB2
    go_wp2_with fail
    refine cL2.out.mono ?_
    rintro e w3 ⟨rfl, hB3⟩
    have HB3 := hid (HB2.out.trans (hB3.mono HB2.out.size))
    clear hB3
    go_wp2
    go_ret
    exact ⟨rfl, HB3.out⟩
end Go.Proofs.YtcbanlgnanihhaaGreatDoor
namespace Go.Proofs.YtcbanlgnanihhaaGreatDoor
open Go.ChangeShapes Go.WideShapes Go.ChangeAt Go.RowKit
set_option linter.unusedVariables false

theorem wf_u32 {n : Int} (h : (Lit.int .u32 n).wf = true) : ∃ k : Nat, n = k ∧ k < 4294967296 := by
  have h1 : IntKind.u32.min = 0 := by decide
  have h3 : IntKind.u32.max = 4294967295 := by decide
  have h2 := h
  simp [Lit.wf, h1, h3] at h2
  exact ⟨n.toNat, by omega, by omega⟩
theorem oks_two32 : ∀ {cs : List Value}, oks [.int .u32, .int .u32] cs → ∃ x y : Nat, cs = [.int .u32 (x : Nat), .int .u32 (y : Nat)] ∧ x < 4294967296 ∧ y < 4294967296
  | [_, _], ⟨⟨x, rfl, hx⟩, ⟨y, rfl, hy⟩, _⟩ => by
    obtain ⟨x, rfl, gx⟩ := wf_u32 hx
    obtain ⟨y, rfl, gy⟩ := wf_u32 hy
    exact ⟨x, y, rfl, gx, gy⟩
end Go.Proofs.YtcbanlgnanihhaaGreatDoor

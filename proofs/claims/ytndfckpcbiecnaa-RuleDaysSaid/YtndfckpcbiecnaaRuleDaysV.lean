/-
  rule.Days, where no day is counted from the month's end.
-/
import Derived.Test.YtndfckpcbiecnaaRuleDyLaw
namespace Go.Proofs.Ytndfckpcbiecnaa
open Go.RowKit
set_option linter.unusedVariables false

attribute [local go_sem ↓] storeAt_cl
attribute [local go_sem] run_storeClS
abbrev DvS (w : World) (r : Ru) (b5 b8 : Nat) (y mo d h m s : Int) (F : Cl) (W : World) : Prop :=
  RuC W w.heap.size r ∧ Six W b5 (.int .i64 y) (.int .i64 mo) (.int .i64 d) (.int .i64 h) (.int .i64 m) (.int .i64 s) ∧ (W.cell? ⟨b8, 4, none⟩ = some (.int .u64 (F.m 4 : Nat)) ∧ W.cell? ⟨b8, 5, none⟩ = some (.int .u64 (F.m 5 : Nat))) ∧ TmF w r b5 b8 y mo d h m s F W
theorem TmF.dvs {w W : World} {r : Ru} {b5 b8 : Nat} {y mo d h m s : Int} {F : Cl} (k : TmF w r b5 b8 y mo d h m s F W) : DvS w r b5 b8 y mo d h m s F W := ⟨k.rb.all, k.six, ⟨k.cl.at 4 rfl, k.cl.at 5 rfl⟩, k⟩
theorem DvS.keep {w W W' : World} {r : Ru} {b5 b8 : Nat} {y mo d h m s : Int} {F : Cl} (k : DvS w r b5 b8 y mo d h m s F W) (hb : Below W.heap.size W W') : DvS w r b5 b8 y mo d h m s F W' := (k.2.2.2.keep hb).dvs
set_option maxRecDepth 100000 in
set_option maxHeartbeats 6400000 in
theorem DaysV_no (r : Ru) (w : World) (hr : RuS w r) (hm : r.Sm 1000000) (hc : ¬ checkE r = 0) : Calls Try.prog 40 #[ruv r] w fun e w' => e = .returned (.tuple #[.int .u64 (domV r : Nat), .int .u64 (endV r : Nat)]) ∧ Below w.heap.size w w' := by
  have hB0 : Below w.heap.size w (w.alloc (.cells (ruList r).toArray 34)) := below_new (Below.refl _ _) (Nat.le_refl _)
  have cB := hid (Begin_any r _ (hr.below hB0) hm)
  have HB0 := hid hB0
  rw [show domV r = 0 by rw [domV, if_neg hc], show endV r = 0 by rw [endV, if_neg hc]]
  have hb : (checkE r == 0) = false := by simpa using hc
  rw [hb] at cB
  obtain ⟨y, mo, d, h, m, s, hst⟩ := stampV_six r.st
  rw [hst] at cB
  clear hc hb hst hr hm hB0
  go_enter Try.func40, Try.ntmps40
  go_wp2_with fail
  refine cB.out.mono ?_
  rintro e w1 ⟨rfl, hB1⟩
  have HB1 := hid ((HB0.out.trans (hB1.mono (by simp only [World.size_alloc]; omega))).trans ((below_new (o := .cells #[.int .i64 y, .int .i64 mo, .int .i64 d, .int .i64 h, .int .i64 m, .int .i64 s] 123) (Below.refl w1.heap.size w1) (Nat.le_refl _)).mono (by have := hB1.size; simp only [World.size_alloc] at this; omega)))
  clear hB1
  go_wp2
  go_ret2
  exact ⟨rfl, HB1.out⟩
end Go.Proofs.Ytndfckpcbiecnaa

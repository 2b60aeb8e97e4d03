/-
  ferialaw17.IrWhole answers true.
-/
import Derived.Test.YtgiecadlliblpaaIrTrims
namespace Go.Proofs.Ytgiecadlliblpaa
open Go.RowKit
set_option linter.unusedVariables false

theorem whole_has (t : Int) : hasL [fullCl] t = winB t := by
  have hm : mayL [fullCl] = true := by rw [mayL, List.all_cons, may_full]; rfl
  rw [hasL, hm, Bool.true_and, List.any_cons, List.any_nil, Bool.or_false]
  cases hw : winB t
  · rw [hasC, hw, Bool.false_and]
  · exact full_has hw
set_option maxRecDepth 100000 in
set_option maxHeartbeats 1600000 in
theorem IrWhole_walk (t : Int) (w : World) (ht : i64B t) : Calls Try.prog 3 #[.int .i64 t] w fun e w' => e = .returned (.bool true) ∧ Below w.heap.size w w' := by
  have cW := hid (IWhole_any w)
  have cH := hid (fun a cap W h => IHas_any a cap [fullCl] t W (by simp) h (fun x hx => by rw [List.mem_singleton] at hx; rw [hx]; exact full_ok))
  have cR := hid (fun W => RMIn_any t W)
  have cV := hid (fun W => Lives17_any W)
  rw [whole_has] at cH
  obtain ⟨B, hB⟩ : ∃ B, winB t = B := ⟨_, rfl⟩
  rw [hB] at cH cR
  clear hB
  go_enter Try.func3, Try.ntmps3
  go_wp2_with fail
  refine cW.out.mono ?_
  rintro e w1 ⟨⟨g, rfl, h1⟩, hB1⟩
  have cH1 : Hid (Calls Try.prog 4 #[.slice (some ⟨g, 0, none⟩) 1 1, .int .i64 t] w1 fun e w' => e = .returned (.bool B) ∧ Below w1.heap.size w1 w') := cH.out _ 1 w1 (owns_sl h1)
  have HB1 := hid hB1
  clear h1 hB1
  go_wp2_with fail
  refine cH1.out.mono ?_
  rintro e w2 ⟨rfl, hB2⟩
  have HB2 := hid (HB1.out.trans (hB2.mono HB1.out.size))
  clear hB2
  go_wp2_with fail
  refine (cR.out _).mono ?_
  rintro e w' ⟨rfl, rfl⟩
  go_wp2_with fail
  refine (cV.out _).mono ?_
  rintro e w3 ⟨rfl, hB3⟩
  have HB3 := hid (HB2.out.trans (hB3.mono HB2.out.size))
  clear hB3
  go_wp2
  go_ret
  exact ⟨rfl, HB3.out⟩
end Go.Proofs.Ytgiecadlliblpaa

/-
  'ferialaw03.CoverBack' answers true for every list of numbers, and leaves it as it was. No condition.
-/
import Derived.Test.YtdggflkkojmabaaCoverBackWalk
import Derived.Test.YtdggflkkojmabaaOpen
namespace Go.Proofs.Ytdggflkkojmabaa.coverBackDone
open Go.ChangeShapes Go.WideShapes Go.ChangeAt Go.RowKit
set_option linter.unusedVariables false

theorem own : ownKnob Try.prog.godebug = none := by kernel_rfl
theorem laidOut : laidOutB Try.prog = true := by kernel_rfl
theorem leafInt : leaves Try.prog 4 3 = some [.int .i64] := by kernel_rfl
theorem cellsInt : Try.prog.cellsOf 3 = 1 := by kernel_rfl

set_option maxRecDepth 100000 in
theorem lifted (os : Os) (started : os.Started) (H : Type) (enc : TypeId × Value → H) :
    ReturnsInHanded {} Try.checked os 4 .any (Rows.coverBackSpec.pre6 enc Try.prog Try.f4 Rows.coverBackRow.domain false) (Rows.coverBackSpec.post enc Try.prog Try.f4 false true false false) := by
  refine returnsInHanded_of_change (C := Try.checked) own started (by kernel_rfl) Try.func4
    (ChangeSpec.witness6 (enc := enc) (C := Try.checked) false ⟨#[], #[.slice none 0 0], []⟩ 8 (by kernel_rfl) (by kernel_rfl) (by kernel_rfl) (by kernel_rfl)) ?_
  intro W base args ds gs before hval0 hW hcnd _
  have hval : ∀ (j : Nat) t v, Try.f4.params[j]? = some t → args[j]? = some v → Value.okWide Try.prog W .any base t v := hval0
  have hW' := hW
  obtain ⟨p, q, hA0, hV, rfl, hfz, hnd⟩ := hW
  have hA : DataW.TrodAll enc Try.prog W 0 (fun _ => true) true Try.f4.params.toList args.toList ds p := hA0
  rw [Try.params4] at hA hval
  obtain ⟨v0, vs0, d0, ds0, p0, q0, hargs, rfl, rfl, h0, r0⟩ := trodAll_cons hA
  obtain ⟨rfl, rfl, rfl⟩ := trodAll_nil r0
  obtain rfl : args = #[v0] := by cases args; simp_all
  obtain ⟨rfl, rfl⟩ := trodVars_none hV
  have k0 := h0
  have lt0 : ∀ x ∈ p0, x.block < W.heap.size := by obtain ⟨m, hm⟩ := k0; exact DataW.trod_lt m _ _ _ hm
  obtain ⟨a0, len0, cap0, rfl⟩ := okWide_slice Try.underlying24 (hval 0 24 v0 rfl rfl)
  obtain ⟨l, cap, hl, hlm, hsl, hwf, rfl, rfl⟩ : ∃ (l : List Int) (cap : Nat), l.length ≤ cap ∧ cap ≤ maxLen ∧ Sl W a0 (ints l) ∧ (∀ x ∈ l, -9223372036854775808 ≤ x ∧ x ≤ 9223372036854775807) ∧ len0 = l.length ∧ cap0 = cap := by
    obtain ⟨fuel, hf⟩ := h0
    obtain ⟨a, n, cap, cells, e, h1, h2, h3, h4, _, h5⟩ := open_flat Try.underlying24 leafInt cellsInt.symm (by decide) (v := .slice a0 len0 cap0) (by simpa [Value.cells] using hf)
    cases e
    obtain ⟨l, rfl, hll, hw⟩ := oks_ints h3 h5
    subst hll
    exact ⟨l, cap0, h1, h2, h4, hw, rfl, rfl⟩
  clear hA0 hval0
  refine (CoverBack_walk a0 cap0 l W (by unfold maxLen at hlm; omega) hl hsl).mono fun e W' ⟨he, bel⟩ => ?_
  subst he
  exact ⟨_, rfl, _, _, _, [], _, [], hW', trodAll_mk1 (shut_bool Try.underlying4 _), (trodAll_cons_mk (Below.trod laidOut (by kernel_rfl) (of_decide_eq_true (by kernel_rfl)) k0 bel lt0) trodAll_mk0), rfl, bel.frame _, fun h => by cases h⟩

theorem over : Rows.coverBackRow.holds Try.pinned (OpenSpec.ofChange Rows.coverBackSpec) :=
  OpenClaim.holds_of_wide 4 Try.f4 rfl rfl rfl rfl rfl rfl rfl ⟨rfl, rfl, rfl, rfl, rfl⟩ rfl rfl rfl rfl rfl (by kernel_rfl) Try.func4 (by kernel_rfl)
    (of_decide_eq_true (by kernel_rfl)) (by unfold Func.isWrapper; first | (rw [if_pos (by decide +kernel)]; kernel_rfl) | (rw [if_neg (by decide +kernel)]; exact ⟨rfl, rfl⟩))
    (fun os started H enc _ => lifted os started H enc)

/-- The statement. -/
theorem proved : Rows.CoverBackSaid := over
#print axioms proved
end Go.Proofs.Ytdggflkkojmabaa.coverBackDone

/-
  'ferialaw03.CoverList' answers true for every list of pieces, and leaves it as it was. No condition.
-/
import Derived.Test.YtdggflkkojmabaaCoverListWalk
import Derived.Test.YtdggflkkojmabaaOpen
namespace Go.Proofs.Ytdggflkkojmabaa.coverListDone
open Go.ChangeShapes Go.WideShapes Go.ChangeAt Go.RowKit
set_option linter.unusedVariables false

theorem own : ownKnob Try.prog.godebug = none := by kernel_rfl
theorem laidOut : laidOutB Try.prog = true := by kernel_rfl
theorem leafPiece : leaves Try.prog 4 28 = some [.int .i64, .int .i64, .int .i64] := by kernel_rfl
theorem cellsPiece : Try.prog.cellsOf 28 = 3 := by kernel_rfl

set_option maxRecDepth 100000 in
theorem lifted (os : Os) (started : os.Started) (H : Type) (enc : TypeId × Value → H) :
    ReturnsInHanded {} Try.checked os 3 .any (Rows.coverListSpec.pre6 enc Try.prog Try.f3 Rows.coverListRow.domain false) (Rows.coverListSpec.post enc Try.prog Try.f3 false true false false) := by
  refine returnsInHanded_of_change (C := Try.checked) own started (by kernel_rfl) Try.func3
    (ChangeSpec.witness6 (enc := enc) (C := Try.checked) false ⟨#[], #[.slice none 0 0], []⟩ 8 (by kernel_rfl) (by kernel_rfl) (by kernel_rfl) (by kernel_rfl)) ?_
  intro W base args ds gs before hval0 hW hcnd _
  have hval : ∀ (j : Nat) t v, Try.f3.params[j]? = some t → args[j]? = some v → Value.okWide Try.prog W .any base t v := hval0
  have hW' := hW
  obtain ⟨p, q, hA0, hV, rfl, hfz, hnd⟩ := hW
  have hA : DataW.TrodAll enc Try.prog W 0 (fun _ => true) true Try.f3.params.toList args.toList ds p := hA0
  rw [Try.params3] at hA hval
  obtain ⟨v0, vs0, d0, ds0, p0, q0, hargs, rfl, rfl, h0, r0⟩ := trodAll_cons hA
  obtain ⟨rfl, rfl, rfl⟩ := trodAll_nil r0
  obtain rfl : args = #[v0] := by cases args; simp_all
  obtain ⟨rfl, rfl⟩ := trodVars_none hV
  have k0 := h0
  have lt0 : ∀ x ∈ p0, x.block < W.heap.size := by obtain ⟨m, hm⟩ := k0; exact DataW.trod_lt m _ _ _ hm
  obtain ⟨a0, len0, cap0, rfl⟩ := okWide_slice Try.underlying22 (hval 0 22 v0 rfl rfl)
  obtain ⟨l, cap, hl, hlm, hsl, hwf, rfl, rfl⟩ : ∃ (l : List (Int × Int × Int)) (cap : Nat), l.length ≤ cap ∧ cap ≤ maxLen ∧ Sl W a0 (trips l) ∧ (∀ p ∈ l, p.1 ≤ 9223372036854775807) ∧ len0 = l.length ∧ cap0 = cap := by
    obtain ⟨fuel, hf⟩ := h0
    obtain ⟨a, n, cap, cells, e, h1, h2, h3, h4, _, h5⟩ := open_flat Try.underlying22 leafPiece cellsPiece.symm (by decide) (v := .slice a0 len0 cap0) (by simpa [Value.cells] using hf)
    cases e
    obtain ⟨l, rfl, hll, hw⟩ := oks_trips h3 h5
    subst hll
    exact ⟨l, cap0, h1, h2, h4, fun p hp => (hw p hp).1.2, rfl, rfl⟩
  clear hA0 hval0
  refine (CoverList_walk a0 cap0 l W (by unfold maxLen at hlm; omega) hsl hwf).mono fun e W' ⟨he, bel⟩ => ?_
  subst he
  exact ⟨_, rfl, _, _, _, [], _, [], hW', trodAll_mk1 (shut_bool Try.underlying4 _), (trodAll_cons_mk (Below.trod laidOut (by kernel_rfl) (of_decide_eq_true (by kernel_rfl)) k0 bel lt0) trodAll_mk0), rfl, bel.frame _, fun h => by cases h⟩

theorem over : Rows.coverListRow.holds Try.pinned (OpenSpec.ofChange Rows.coverListSpec) :=
  OpenClaim.holds_of_wide 3 Try.f3 rfl rfl rfl rfl rfl rfl rfl ⟨rfl, rfl, rfl, rfl, rfl⟩ rfl rfl rfl rfl rfl (by kernel_rfl) Try.func3 (by kernel_rfl)
    (of_decide_eq_true (by kernel_rfl)) (by unfold Func.isWrapper; first | (rw [if_pos (by decide +kernel)]; kernel_rfl) | (rw [if_neg (by decide +kernel)]; exact ⟨rfl, rfl⟩))
    (fun os started H enc _ => lifted os started H enc)

/-- The statement. -/
theorem proved : Rows.CoverListSaid := over
#print axioms proved
end Go.Proofs.Ytdggflkkojmabaa.coverListDone

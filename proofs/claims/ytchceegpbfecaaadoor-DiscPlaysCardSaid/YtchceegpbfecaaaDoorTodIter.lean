/-
  The function that tod.All makes tells the seconds of its masks: three ranges over functions, one within the other.
-/
import Derived.Test.YtchceegpbfecaaaDoorRangeAll
import Derived.WalkMore
import Derived.Test.YtchceegpbfecaaaDoorTodSecs
import Derived.Test.YtchceegpbfecaaaDoorCollectAll
namespace Go.Proofs.YtchceegpbfecaaaDoor
open Go.RowKit
set_option linter.unusedVariables false
attribute [local go_sem] Oper.semAt_some

theorem secRow_get (h m : Int) (S : List Int) (k : Nat) (hk : k < S.length) : (secRow h m S)[k]? = some (3600 * h + 60 * m + S[k]) := by
  simp [secRow, List.getElem?_eq_getElem hk]
theorem secHour_get (h : Int) (S : List Int) (k : Nat) (hk : k < S.length) : ∀ (M : List Int) (j : Nat) (hj : j < M.length), (secHour h M S)[j * S.length + k]? = some (3600 * h + 60 * M[j] + S[k])
  | m :: M, 0, _ => by
    have e : secHour h (m :: M) S = secRow h m S ++ secHour h M S := by simp [secHour]
    rw [e, List.getElem?_append_left (by rw [secRow_len]; omega), Nat.zero_mul, Nat.zero_add, secRow_get h m S k hk]; rfl
  | m :: M, j + 1, hj => by
    have e : secHour h (m :: M) S = secRow h m S ++ secHour h M S := by simp [secHour]
    have e2 : (j + 1) * S.length + k = S.length + (j * S.length + k) := by rw [Nat.succ_mul]; omega
    rw [e, e2, List.getElem?_append_right (by rw [secRow_len]; omega), secRow_len, Nat.add_sub_cancel_left, secHour_get h S k hk M j (by simpa using hj)]; rfl
theorem secs_get' (M S : List Int) (j k : Nat) (hj : j < M.length) (hk : k < S.length) : ∀ (H : List Int) (i : Nat) (hi : i < H.length), (secs H M S)[i * (M.length * S.length) + j * S.length + k]? = some (3600 * H[i] + 60 * M[j] + S[k])
  | h :: H, 0, _ => by
    have e : secs (h :: H) M S = secHour h M S ++ secs H M S := by simp [secs]
    have hlt : j * S.length + k < M.length * S.length := by
      have : (j + 1) * S.length ≤ M.length * S.length := Nat.mul_le_mul_right _ hj
      rw [Nat.succ_mul] at this; omega
    rw [e, Nat.zero_mul, Nat.zero_add, List.getElem?_append_left (by rw [secHour_len]; exact hlt), secHour_get h S k hk M j hj]; rfl
  | h :: H, i + 1, hi => by
    have e : secs (h :: H) M S = secHour h M S ++ secs H M S := by simp [secs]
    have e2 : (i + 1) * (M.length * S.length) + j * S.length + k = M.length * S.length + (i * (M.length * S.length) + j * S.length + k) := by rw [Nat.succ_mul]; omega
    rw [e, e2, List.getElem?_append_right (by rw [secHour_len]; omega), secHour_len, Nat.add_sub_cancel_left, secs_get' M S j k hj hk H i (by simpa using hi)]; rfl
theorem secs_get (H M S : List Int) (i j k : Nat) (hi : i < H.length) (hj : j < M.length) (hk : k < S.length) :
    ∃ h : i * (M.length * S.length) + j * S.length + k < (secs H M S).length, (secs H M S)[i * (M.length * S.length) + j * S.length + k] = 3600 * H[i] + 60 * M[j] + S[k] := by
  obtain ⟨h, e⟩ := List.getElem?_eq_some_iff.1 (secs_get' M S j k hj hk H i hi)
  exact ⟨h, e⟩

theorem putObj_cell {W : World} {l : Nat} {o : Obj} {b i : Nat} {v : Value} (hr : ∃ r, W.heap[l]? = some (.loop r)) (h : W.cell? ⟨b, i, none⟩ = some v) : (W.putObj l o).cell? ⟨b, i, none⟩ = some v := by
  refine (World.cell?_of_block (w := W) (a := ⟨b, i, none⟩) (World.putObj_heap_other (fun e => ?_))).trans h
  obtain ⟨r, hr⟩ := hr
  simp only at e
  subst e
  rw [World.cell?] at h
  simp [hr] at h

theorem MAll_one (m : Nat) (W : World) (hm : m < 18446744073709551616) : Calls Tryd.prog 27 #[.slice (some ⟨W.heap.size, 0, none⟩) 1 1] (W.alloc (.cells #[.int .u64 m] 43)) fun e w' =>
    e = .returned (.func (.func 31) #[] #[.pointer (some ⟨W.heap.size + 1, 0, none⟩)]) ∧ w'.cell? ⟨W.heap.size + 1, 0, none⟩ = some (.int .u64 m) ∧ Below W.heap.size W w' ∧ W.heap.size + 1 < w'.heap.size := by
  have h := MAll_any (some ⟨W.heap.size, 0, none⟩) 1 [m] (W.alloc (.cells #[.int .u64 m] 43)) (by simp) (.inr ⟨W.heap.size, 0, rfl, by simp, fun j hj => by simp [u64s] at hj ⊢; subst hj; simp [go_sem]⟩) (by simpa using hm)
  rw [andM_one hm, World.size_alloc] at h
  exact h.mono fun e w' ⟨h1, h2, h3, h4⟩ => ⟨h1, h2, (below_new (Below.refl _ _) (Nat.le_refl _)).trans (h3.mono (by omega)), h4⟩
theorem Grow.of_below {O : Nat → Prop} {W W' : World} (h : Below W.heap.size W W') : Grow O O W W' := ⟨fun _ h => h, fun _ h => .inl h, Eff.of_below h⟩
theorem stab_below {I : OwnP} (hI : StabO I) (hl : LtO I) {k : Nat} {O : Nat → Prop} {W W' : World} (h : I k O W) (hb : Below W.heap.size W W') : I k O W' := hI k O W W' h hb.size (fun b hb2 => hb.block b (hl k O W h b hb2))
theorem stab_put {I : OwnP} (hI : StabO I) {k : Nat} {O : Nat → Prop} {W : World} (h : I k O W) {l : Nat} (hn : ¬ O l) (o : Obj) : I k O (W.putObj l o) :=
  hI k O W _ h (by rw [World.putObj_size]; exact Nat.le_refl _) (fun b hb => World.putObj_heap_other (fun e => hn (e ▸ hb)))

end Go.Proofs.YtchceegpbfecaaaDoor

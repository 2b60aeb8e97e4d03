/-
  Arguments that came in, opened: of a type that is flat (integers, bools, structs and arrays of them) the cells are what its leaves say; a slice of flat elements is a row of such cells. No condition.
-/
import Derived.Test.YtchceegpbfecaaaDoorBase
import Derived.OpenShut
import Derived.Deep.Slices
import Derived.ChangeOld
import Derived.ShutString
namespace Go.Proofs.YtchceegpbfecaaaDoor
open Go.RowKit Go.ChangeShapes Go.WideShapes
set_option linter.unusedVariables false

inductive Leaf where
  | int (k : IntKind)
  | bool

def Leaf.ok : Leaf → Value → Prop
  | .int k, v => ∃ n, v = .int k n ∧ (Lit.int k n).wf = true
  | .bool, v => ∃ b, v = .bool b

def oks : List Leaf → List Value → Prop
  | [], [] => True
  | k :: ks, v :: vs => k.ok v ∧ oks ks vs
  | _, _ => False

theorem oks_length : ∀ {ks : List Leaf} {cs : List Value}, oks ks cs → ks.length = cs.length
  | [], [], _ => rfl
  | k :: ks, v :: vs, h => by simp [oks_length h.2]
  | [], _ :: _, h => h.elim
  | _ :: _, [], h => h.elim
theorem oks_append : ∀ {ks ls : List Leaf} {cs ds : List Value}, oks ks cs → oks ls ds → oks (ks ++ ls) (cs ++ ds)
  | [], _, [], _, _, h => h
  | k :: ks, ls, v :: vs, ds, h, h' => ⟨h.1, oks_append h.2 h'⟩
  | [], _, _ :: _, _, h, _ => h.elim
  | _ :: _, _, [], _, h, _ => h.elim

def leavesF (P : Program) (g : TypeId → Option (List Leaf)) : List Field → Nat → Option (List Leaf)
  | [], _ => some []
  | f :: fs, o => (g f.type).bind fun l => if f.offset = o ∧ l.length = P.cellsOf f.type then (leavesF P g fs (o + l.length)).map (l ++ ·) else none

def leaves (P : Program) : Nat → TypeId → Option (List Leaf)
  | 0, _ => none
  | m + 1, t =>
    match P.underlying t with
    | some (.int k) => some [.int k]
    | some .bool => some [.bool]
    | some (.struct fs) => (leavesF P (leaves P m) fs.toList 0).bind fun l => if l.length = P.cellsOf t then some l else none
    | some (.array n e) => (leaves P m e).bind fun l => if l.length = P.cellsOf e ∧ n * P.cellsOf e = P.cellsOf t then some (List.replicate n l).flatten else none
    | _ => none

section
variable {H : Type} {enc : TypeId × Value → H} {P : Program} {w : World} {base : Nat} {spare : Nat → Bool} {held : Bool}

theorem leavesF_ok {g : TypeId → Option (List Leaf)} {n : Nat} {cs : List Value}
    (hg : ∀ t ks c (x : DataW H × List MemPlace), g t = some ks → DataW.trod enc P w base spare held n t c = some x → oks ks c) :
    ∀ (fs : List Field) (o : Nat) (ks : List Leaf), leavesF P g fs o = some ks →
      (∀ f ∈ fs, ∃ x : DataW H × List MemPlace, DataW.trod enc P w base spare held n f.type ((cs.drop f.offset).take (P.cellsOf f.type)) = some x) → cs.length = o + ks.length → oks ks (cs.drop o) := by
  intro fs
  induction fs with
  | nil =>
    intro o ks h _ hl
    simp [leavesF] at h
    subst h
    rw [List.drop_of_length_le (by simp at hl; omega)]
    trivial
  | cons f fs ih =>
    intro o ks h hx hl
    simp only [leavesF, Option.bind_eq_some_iff] at h
    obtain ⟨l, hgl, h⟩ := h
    split at h
    · rename_i hc
      obtain ⟨ho, hlen⟩ := hc
      simp only [Option.map_eq_some_iff] at h
      obtain ⟨r, hr, rfl⟩ := h
      obtain ⟨x, hx1⟩ := hx f (by simp)
      have h1 := hg _ _ _ _ hgl hx1
      rw [ho, ← hlen] at h1
      have h2 := ih (o + l.length) r hr (fun f hf => hx f (by simp [hf])) (by simp at hl; omega)
      have := oks_append h1 h2
      rw [← List.drop_drop] at this
      rwa [List.take_append_drop] at this
    · cases h

theorem oks_rep (l : List Leaf) (cs : List Value) : ∀ (n : Nat), cs.length = n * l.length → (∀ i, i < n → oks l ((cs.drop (i * l.length)).take l.length)) → oks (List.replicate n l).flatten cs := by
  intro n
  induction n generalizing cs with
  | zero => intro h _; simp at h; subst h; trivial
  | succ n ih =>
    intro h hx
    rw [List.replicate_succ, List.flatten_cons]
    have h0 := hx 0 (by omega)
    simp only [Nat.zero_mul, List.drop_zero] at h0
    have h1 := ih (cs.drop l.length) (by rw [List.length_drop, h, Nat.succ_mul]; omega) (fun i hi => by
      have := hx (i + 1) (by omega)
      rw [List.drop_drop]
      rwa [Nat.succ_mul, Nat.add_comm] at this)
    have := oks_append h0 h1
    rwa [List.take_append_drop] at this

theorem leaves_ok : ∀ (m : Nat) {t : TypeId} {ks : List Leaf} {fuel : Nat} {cs : List Value} {x : DataW H × List MemPlace}, leaves P m t = some ks → DataW.trod enc P w base spare held fuel t cs = some x → oks ks cs
  | 0, _, _, _, _, _, h, _ => by simp [leaves] at h
  | m + 1, t, ks, fuel, cs, x, h, hx => by
    unfold leaves at h
    split at h
    · rename_i k ht
      obtain ⟨n, rfl, _, hw⟩ := DataW.trod_int ht hx
      cases h
      exact ⟨⟨n, rfl, hw⟩, trivial⟩
    · rename_i ht
      obtain ⟨b, rfl, _⟩ := DataW.trod_bool ht hx
      cases h
      exact ⟨⟨b, rfl⟩, trivial⟩
    · rename_i fs ht
      obtain ⟨xs, n, rfl, _, hlen, hxl, hf⟩ := DataW.trod_struct ht hx
      simp only [Option.bind_eq_some_iff] at h
      obtain ⟨l, hl, h⟩ := h
      split at h
      · rename_i hc
        cases h
        have := leavesF_ok (cs := cs) (enc := enc) (P := P) (w := w) (base := base) (spare := spare) (held := held) (n := n) (fun t ks c x h1 h2 => leaves_ok m h1 h2) fs.toList 0 ks hl (fun f hff => by
          obtain ⟨i, hi, rfl⟩ := List.getElem_of_mem hff
          have h3 := hf i fs.toList[i] (by simp at hi ⊢)
          have hi' : i < xs.length := by rw [hxl]; simpa using hi
          rw [List.getElem?_eq_getElem hi'] at h3
          exact ⟨_, h3⟩) (by omega)
        simpa using this
      · cases h
    · rename_i n e ht
      obtain ⟨xs, m', rfl, _, hlen, hxl, hf⟩ := DataW.trod_array ht hx
      simp only [Option.bind_eq_some_iff] at h
      obtain ⟨l, hl, h⟩ := h
      split at h
      · rename_i hc
        cases h
        refine oks_rep l cs n (by rw [hlen, ← hc.2, hc.1]) (fun i hi => ?_)
        have h3 := hf i hi
        rw [List.getElem?_eq_getElem (by omega)] at h3
        rw [hc.1]
        exact leaves_ok m hl h3
      · cases h
    · cases h

theorem flat_get {n s : Nat} {C : Nat → List Value} (hC : ∀ i, i < n → (C i).length = s) : ((List.range n).flatMap C).length = n * s ∧
    ∀ i r, i < n → r < s → ((List.range n).flatMap C)[i * s + r]? = (C i)[r]? := by
  induction n with
  | zero => exact ⟨by simp, fun i r hi => by omega⟩
  | succ n ih =>
    obtain ⟨h1, h2⟩ := ih (fun i hi => hC i (by omega))
    rw [List.range_succ, List.flatMap_append]
    refine ⟨by simp [h1, hC n (by omega), Nat.succ_mul], fun i r hi hr => ?_⟩
    by_cases hin : i < n
    · rw [List.getElem?_append_left, h2 i r hin hr]
      rw [h1]
      calc i * s + r < i * s + s := by omega
        _ = (i + 1) * s := by rw [Nat.succ_mul]
        _ ≤ n * s := Nat.mul_le_mul_right _ hin
    · obtain rfl : i = n := by omega
      rw [List.getElem?_append_right (by rw [h1]; omega), h1, Nat.add_sub_cancel_left]
      simp

/-- A slice of flat elements that came in. -/
theorem open_flat {t e : TypeId} {fuel m : Nat} {ks : List Leaf} {v : Value} {x : DataW H × List MemPlace} (ht : P.underlying t = some (.slice e)) (hk : leaves P m e = some ks) (hkl : ks.length = P.cellsOf e) (hpos : 0 < ks.length)
    (h : DataW.trod enc P w base spare held fuel t [v] = some x) :
    ∃ (a : Option Addr) (n cap : Nat) (cells : List Value), v = .slice a n cap ∧ n ≤ cap ∧ cap ≤ maxLen ∧ cells.length = n * ks.length ∧ Sl w a cells ∧ (a = none → cap = 0) ∧ ∀ i, i < n → oks ks ((cells.drop (i * ks.length)).take ks.length) := by
  rcases Go.Deep.open_slice ht h with ⟨h1, _⟩ | ⟨a, len, cap, mm, nn, D, Pl, h1, hb, hl, hm, hmm, rfl, hx⟩
  · simp at h1; subst h1
    exact ⟨none, 0, 0, [], rfl, Nat.le_refl _, by unfold maxLen; omega, by simp, .inl rfl, fun _ => rfl, fun i hi => by omega⟩
  · simp at h1; subst h1
    have hlm : len ≤ mm := by rw [hmm]; split <;> omega
    obtain ⟨C, hC⟩ := Go.Deep.choose_lt (α := List Value) (p := fun i c => w.cells? base (a.add (i * P.cellsOf e)) (P.cellsOf e) = some c ∧ DataW.trod enc P w base spare held nn e c = some (D i, Pl i)) (fun i hi => hx i hi)
    have hCl : ∀ i, i < len → (C i).length = ks.length := fun i hi => by rw [hkl]; exact (World.cells?_some (hC i (by omega)).1).2.1
    obtain ⟨hfl, hfg⟩ := flat_get hCl
    refine ⟨some a, len, cap, (List.range len).flatMap C, rfl, hl, hm, hfl, ?_, fun h => (by cases h), ?_⟩
    · rcases Nat.eq_zero_or_pos len with h0 | h0
      · subst h0; exact .inl rfl
      · obtain ⟨_, _, hc0⟩ := World.cells?_some (hC 0 (by omega)).1
        have hc00 := hc0 0 (by omega)
        rw [List.getElem?_eq_getElem (by rw [hCl 0 h0]; omega)] at hc00
        have hsp : (a.add (0 * P.cellsOf e)).add 0 = a := by simp [Addr.add]
        rw [hsp] at hc00
        have hspot := World.cell?_spot hc00
        obtain ⟨b, off, spot⟩ := a
        simp at hspot
        subst hspot
        refine .inr ⟨b, off, rfl, World.block_lt_of_cell? w _ hc00, fun j hj => ?_⟩
        rw [hfl] at hj
        have hi : j / ks.length < len := Nat.div_lt_of_lt_mul (by rwa [Nat.mul_comm] at hj)
        have hr : j % ks.length < ks.length := Nat.mod_lt _ hpos
        have hj2 : j / ks.length * ks.length + j % ks.length = j := by rw [Nat.mul_comm]; exact Nat.div_add_mod _ _
        have h1 := hfg _ _ hi hr
        rw [hj2] at h1
        obtain ⟨_, _, hc⟩ := World.cells?_some (hC _ (by omega : j / ks.length < mm)).1
        have h2 := hc (j % ks.length) (by omega)
        rw [Addr.add_lit, Addr.add_lit, ← hkl, Nat.add_assoc, hj2, ← h1, List.getElem?_eq_getElem (by rw [hfl]; exact hj)] at h2
        exact h2
    · intro i hi
      have e : (((List.range len).flatMap C).drop (i * ks.length)).take ks.length = C i := by
        apply List.ext_getElem?
        intro r
        by_cases hr : r < ks.length
        · rw [List.getElem?_take_of_lt hr, List.getElem?_drop, hfg i r hi hr]
        · rw [List.getElem?_eq_none (by rw [List.length_take]; omega), List.getElem?_eq_none (by rw [hCl i hi]; omega)]
      rw [e]
      exact leaves_ok m hk (hC i (by omega)).2
end

theorem okWide_flat {P : Program} {W : World} {r : Reach} {base : Nat} {t : TypeId} {v : Value} (hag : (∃ fs, P.underlying t = some (.struct fs)) ∨ ∃ n e, P.underlying t = some (.array n e)) (h : Value.okWide P W r base t v) : ∃ cs : List Value, v = .agg cs.toArray := by
  rcases hag with ⟨fs, ht⟩ | ⟨n, e, ht⟩
  · obtain ⟨cs, rfl, _⟩ := okWide_struct ht h
    exact ⟨cs.toList, by simp⟩
  · simp only [Value.okWide, ht] at h
    obtain ⟨cs, rfl, _, _⟩ := h
    exact ⟨cs.toList, by simp⟩

/-- A flat struct or array that came in by value. -/
theorem open_agg_flat {H : Type} {enc : TypeId × Value → H} {P : Program} {W : World} {r : Reach} {b0 base : Nat} {spare : Nat → Bool} {held : Bool} {t : TypeId} {v : Value} {d : DataW H} {p : List MemPlace} {ks : List Leaf} (m : Nat)
    (hag : (∃ fs, P.underlying t = some (.struct fs)) ∨ ∃ n e, P.underlying t = some (.array n e)) (hk : leaves P m t = some ks) (hv : Value.okWide P W r b0 t v) (h : DataW.Trod enc P W base spare held t v d p) :
    ∃ cs : List Value, v = .agg cs.toArray ∧ oks ks cs := by
  obtain ⟨cs, rfl⟩ := okWide_flat hag hv
  obtain ⟨fuel, hf⟩ := h
  exact ⟨cs, rfl, leaves_ok m hk (by simpa [Value.cells] using hf)⟩

theorem wf_i64 {n : Int} (h : (Lit.int .i64 n).wf = true) : -9223372036854775808 ≤ n ∧ n ≤ 9223372036854775807 := by
  have h1 : IntKind.i64.min = -9223372036854775808 := by decide
  have h2 := h
  simp [Lit.wf, h1] at h2
  exact h2

theorem wf_u64 {n : Int} (h : (Lit.int .u64 n).wf = true) : ∃ m : Nat, n = (m : Int) ∧ m < 18446744073709551616 := by
  have h1 : IntKind.u64.min = 0 := by decide
  have h3 : IntKind.u64.max = 18446744073709551615 := by decide
  have h2 := h
  simp [Lit.wf, h1, h3] at h2
  exact ⟨n.toNat, by omega, by omega⟩
theorem wf_u8 {n : Int} (h : (Lit.int .u8 n).wf = true) : ∃ m : Nat, n = (m : Int) ∧ m < 256 := by
  have h1 : IntKind.u8.min = 0 := by decide
  have h3 : IntKind.u8.max = 255 := by decide
  have h2 := h
  simp [Lit.wf, h1, h3] at h2
  exact ⟨n.toNat, by omega, by omega⟩
theorem wf_u16 {n : Int} (h : (Lit.int .u16 n).wf = true) : ∃ m : Nat, n = (m : Int) ∧ m < 65536 := by
  have h1 : IntKind.u16.min = 0 := by decide
  have h3 : IntKind.u16.max = 65535 := by decide
  have h2 := h
  simp [Lit.wf, h1, h3] at h2
  exact ⟨n.toNat, by omega, by omega⟩

def u64s (l : List Nat) : List Value := l.map fun (n : Nat) => Value.int .u64 (n : Int)
theorem oks_u64s : ∀ {n : Nat} {cs : List Value}, oks (List.replicate n (.int .u64)) cs → ∃ l : List Nat, cs = u64s l ∧ l.length = n ∧ ∀ x ∈ l, x < 18446744073709551616
  | 0, [], _ => ⟨[], rfl, rfl, by simp⟩
  | 0, _ :: _, h => h.elim
  | n + 1, [], h => h.elim
  | n + 1, v :: cs, ⟨⟨x, hv, hw⟩, h⟩ => by
    obtain ⟨l, rfl, hl, hb⟩ := oks_u64s h
    obtain ⟨m, rfl, hm⟩ := wf_u64 hw
    exact ⟨m :: l, by rw [hv]; rfl, by simp [hl], fun y hy => by
      rcases List.mem_cons.1 hy with rfl | hy
      · exact hm
      · exact hb y hy⟩
theorem oks_three {k : IntKind} : ∀ {cs : List Value}, oks [.int k, .int k, .int k] cs → ∃ x y z : Int, cs = [.int k x, .int k y, .int k z] ∧ (Lit.int k x).wf = true ∧ (Lit.int k y).wf = true ∧ (Lit.int k z).wf = true
  | [_, _, _], ⟨⟨x, rfl, hx⟩, ⟨y, rfl, hy⟩, ⟨z, rfl, hz⟩, _⟩ => ⟨x, y, z, rfl, hx, hy, hz⟩

/-- ints -/
theorem oks_ints : ∀ {cells : List Value} {n : Nat}, cells.length = n * 1 → (∀ i, i < n → oks [.int .i64] ((cells.drop (i * 1)).take 1)) → ∃ l : List Int, cells = ints l ∧ l.length = n ∧ ∀ x ∈ l, -9223372036854775808 ≤ x ∧ x ≤ 9223372036854775807
  | [], n, h, _ => ⟨[], rfl, by simp at h; simp [h], by simp⟩
  | v :: cells, 0, h, _ => by simp at h
  | v :: cells, n + 1, h, hk => by
    obtain ⟨l, e, hl, hb⟩ := oks_ints (cells := cells) (n := n) (by simp at h ⊢; omega) (fun i hi => by have := hk (i + 1) (by omega); simpa using this)
    have h0 := hk 0 (by omega)
    simp at h0
    obtain ⟨⟨x, rfl, hw⟩, _⟩ := h0
    exact ⟨x :: l, by rw [e]; rfl, by simp [hl], fun y hy => by
      rcases List.mem_cons.1 hy with rfl | hy
      · exact wf_i64 hw
      · exact hb y hy⟩

theorem oks_trips : ∀ {cells : List Value} {n : Nat}, cells.length = n * 3 → (∀ i, i < n → oks [.int .i64, .int .i64, .int .i64] ((cells.drop (i * 3)).take 3)) →
    ∃ l : List (Int × Int × Int), cells = trips l ∧ l.length = n ∧ ∀ p ∈ l, (-9223372036854775808 ≤ p.1 ∧ p.1 ≤ 9223372036854775807) ∧ (-9223372036854775808 ≤ p.2.1 ∧ p.2.1 ≤ 9223372036854775807) ∧ (-9223372036854775808 ≤ p.2.2 ∧ p.2.2 ≤ 9223372036854775807)
  | [], n, h, _ => ⟨[], rfl, by simp at h; simp; omega, by simp⟩
  | [_], n, h, _ => by simp at h; omega
  | [_, _], n, h, _ => by simp at h; omega
  | _ :: _ :: _ :: cells, 0, h, _ => by simp at h
  | v0 :: v1 :: v2 :: cells, n + 1, h, hk => by
    obtain ⟨l, e, hl, hb⟩ := oks_trips (cells := cells) (n := n) (by simp at h ⊢; omega) (fun i hi => by
      have := hk (i + 1) (by omega)
      have e3 : (i + 1) * 3 = i * 3 + 1 + 1 + 1 := by omega
      rw [e3] at this
      simpa using this)
    have h0 := hk 0 (by omega)
    simp at h0
    obtain ⟨⟨x, rfl, hw⟩, ⟨y, rfl, hw1⟩, ⟨z, rfl, hw2⟩, _⟩ := h0
    exact ⟨(x, y, z) :: l, by rw [e]; rfl, by simp [hl], fun p hp => by
      rcases List.mem_cons.1 hp with rfl | hp
      · exact ⟨wf_i64 hw, wf_i64 hw1, wf_i64 hw2⟩
      · exact hb p hp⟩
end Go.Proofs.YtchceegpbfecaaaDoor

/-
  A list of calls that is handed in: numbers, two lists each, and a truth.
-/
import Derived.Test.YtchceegpbfecaaaDoorOpen
import Derived.Deep.Fields
import Derived.ChangeSame
namespace Go.Proofs.YtchceegpbfecaaaDoor
open Go.ChangeShapes Go.WideShapes Go.ChangeAt Go.RowKit Go.Deep
set_option linter.unusedVariables false

section
variable {H : Type} {enc : TypeId × Value → H} {P : Program} {w : World} {base : Nat} {spare : Nat → Bool} {held : Bool}
/-- A slice of any elements that came in: its cells, and what is told of each element. -/
theorem open_elems {t e : TypeId} {fuel s : Nat} {v : Value} {x : DataW H × List MemPlace} (ht : P.underlying t = some (.slice e)) (hs : P.cellsOf e = s) (hpos : 0 < s)
    (h : DataW.trod enc P w base spare held fuel t [v] = some x) :
    ∃ (a : Option Addr) (n cap : Nat) (cells : List Value), v = .slice a n cap ∧ n ≤ cap ∧ cap ≤ maxLen ∧ cells.length = n * s ∧ Sl w a cells ∧ (a = none → cap = 0) ∧ ∀ i, i < n → ∃ nn y, ((cells.drop (i * s)).take s).length = s ∧ DataW.trod enc P w base spare held nn e ((cells.drop (i * s)).take s) = some y := by
  rcases Go.Deep.open_slice ht h with ⟨h1, _⟩ | ⟨a, len, cap, mm, nn, D, Pl, h1, hb, hl, hm, hmm, rfl, hx⟩
  · simp at h1; subst h1
    exact ⟨none, 0, 0, [], rfl, Nat.le_refl _, by unfold maxLen; omega, by simp, .inl rfl, fun _ => rfl, fun i hi => by omega⟩
  · simp at h1; subst h1
    have hlm : len ≤ mm := by rw [hmm]; split <;> omega
    obtain ⟨C, hC⟩ := Go.Deep.choose_lt (α := List Value) (p := fun i c => w.cells? base (a.add (i * P.cellsOf e)) (P.cellsOf e) = some c ∧ DataW.trod enc P w base spare held nn e c = some (D i, Pl i)) (fun i hi => hx i hi)
    have hCl : ∀ i, i < len → (C i).length = s := fun i hi => by rw [← hs]; exact (World.cells?_some (hC i (by omega)).1).2.1
    obtain ⟨hfl, hfg⟩ := flat_get hCl
    refine ⟨some a, len, cap, (List.range len).flatMap C, rfl, hl, hm, hfl, ?_, fun h => (by cases h), ?_⟩
    · rcases Nat.eq_zero_or_pos len with h0 | h0
      · subst h0; exact .inl rfl
      · obtain ⟨_, _, hc0⟩ := World.cells?_some (hC 0 (by omega)).1
        have hc00 := hc0 0 (by omega)
        rw [List.getElem?_eq_getElem (by rw [hCl 0 h0]; omega)] at hc00
        have hsp : (a.add (0 * P.cellsOf e)).add 0 = a := by simp [Addr.add]
        rw [hsp] at hc00
        have hspot := World.cell?_spot hc00
        obtain ⟨b, off, spot⟩ := a
        simp at hspot
        subst hspot
        refine .inr ⟨b, off, rfl, World.block_lt_of_cell? w _ hc00, fun j hj => ?_⟩
        rw [hfl] at hj
        have hi : j / s < len := Nat.div_lt_of_lt_mul (by rwa [Nat.mul_comm] at hj)
        have hr : j % s < s := Nat.mod_lt _ hpos
        have hj2 : j / s * s + j % s = j := by rw [Nat.mul_comm]; exact Nat.div_add_mod _ _
        have h1 := hfg _ _ hi hr
        rw [hj2] at h1
        obtain ⟨_, _, hc⟩ := World.cells?_some (hC _ (by omega : j / s < mm)).1
        have h2 := hc (j % s) (by omega)
        rw [Addr.add_lit, Addr.add_lit, hs, Nat.add_assoc, hj2, ← h1, List.getElem?_eq_getElem (by rw [hfl]; exact hj)] at h2
        exact h2
    · intro i hi
      have e : (((List.range len).flatMap C).drop (i * s)).take s = C i := by
        apply List.ext_getElem?
        intro r
        by_cases hr : r < s
        · rw [List.getElem?_take_of_lt hr, List.getElem?_drop, hfg i r hi hr]
        · rw [List.getElem?_eq_none (by rw [List.length_take]; omega), List.getElem?_eq_none (by rw [hCl i hi]; omega)]
      rw [e]
      exact ⟨nn, _, hCl i hi, (hC i (by omega)).2⟩
end
/-- a call -/
structure De where
  kind : Int
  a : Option Addr
  ca : Nat
  l : List Int
  b : Option Addr
  cb : Nat
  m : List Int
  two : Bool
def deList (d : De) : List Value := [.int .i64 d.kind, .slice d.a d.l.length d.ca, .slice d.b d.m.length d.cb, .bool d.two]
def des (ds : List De) : List Value := ds.flatMap deList
theorem des_length (ds : List De) : (des ds).length = 4 * ds.length := by
  induction ds with
  | nil => rfl
  | cons d ds ih => rw [des, List.flatMap_cons, List.length_append, ← des, ih, List.length_cons]; show 4 + _ = _; omega
/-- what stands of a call in memory -/
structure DeS (W : World) (d : De) : Prop where
  kind : -9223372036854775808 ≤ d.kind ∧ d.kind ≤ 9223372036854775807
  la : d.l.length ≤ d.ca
  lb : d.m.length ≤ d.cb
  sa : Sl W d.a (ints d.l)
  sb : Sl W d.b (ints d.m)
  na : d.a = none → d.ca = 0
  nb : d.b = none → d.cb = 0
theorem open_dints {H : Type} {enc : TypeId × Value → H} {W : World} {fuel : Nat} {v : Value} {y : DataW H × List MemPlace} (h : DataW.trod enc Tryd.prog W 0 (fun _ => true) true fuel 22 [v] = some y) :
    ∃ (a : Option Addr) (cap : Nat) (l : List Int), v = .slice a l.length cap ∧ l.length ≤ cap ∧ Sl W a (ints l) ∧ (a = none → cap = 0) := by
  obtain ⟨a, n, cap, cells, rfl, h1, h2, h3, h4, h6, h5⟩ := open_flat (m := 1) (ks := [.int .i64]) Tryd.underlying22 (by kernel_rfl) (by kernel_rfl) (by decide) h
  obtain ⟨l, rfl, rfl, -⟩ := oks_ints h3 h5
  exact ⟨a, cap, l, rfl, h1, h4, h6⟩
theorem oneDeed : ∃ fs, Tryd.prog.underlying 29 = some (.struct fs) ∧ oneCellFields Tryd.prog fs = true ∧ (fs.map (·.type)).toList = [3, 22, 22, 4] := ⟨_, Tryd.underlying29, by kernel_rfl, by kernel_rfl⟩
theorem cellsDeed : Tryd.prog.cellsOf 29 = 4 := by kernel_rfl
theorem open_deed {H : Type} {enc : TypeId × Value → H} {W : World} {fuel : Nat} {cs : List Value} {y : DataW H × List MemPlace} (hl : cs.length = 4) (h : DataW.trod enc Tryd.prog W 0 (fun _ => true) true fuel 29 cs = some y) :
    ∃ d : De, cs = deList d ∧ DeS W d := by
  obtain ⟨fs, hs, hone, hty⟩ := oneDeed
  match cs, hl with
  | [c0, c1, c2, c3], _ =>
    obtain ⟨xs, n, _, hx, _, hlen, hg⟩ := DataW.trod_struct hs h
    have key : ∀ (i : Nat) (t : TypeId) (c : Value), [3, 22, 22, 4][i]? = some t → [c0, c1, c2, c3][i]? = some c → ∃ z, DataW.trod enc Tryd.prog W 0 (fun _ => true) true n t [c] = some z := by
      intro i t c ht hc
      rw [← hty] at ht
      have hfi : ∃ f, fs[i]? = some f ∧ f.type = t := by
        simp only [Array.toList_map, List.getElem?_map, Option.map_eq_some_iff] at ht
        obtain ⟨f, hf1, hf2⟩ := ht
        exact ⟨f, by simpa using hf1, hf2⟩
      obtain ⟨f, hf1, rfl⟩ := hfi
      obtain ⟨o, k⟩ := hone_of hone i f hf1
      have g := hg i f hf1
      rw [o, k] at g
      have hil : i < fs.size := (Array.getElem?_eq_some_iff.1 hf1).1
      have hxs : i < xs.length := by omega
      refine ⟨xs[i], ?_⟩
      rw [List.getElem?_eq_getElem hxs] at g
      have e : (([c0, c1, c2, c3].drop i).take 1) = [c] := by
        obtain ⟨hi', hce⟩ := List.getElem?_eq_some_iff.1 hc
        rw [List.drop_eq_getElem_cons hi', hce]; rfl
      rw [e] at g
      exact g
    obtain ⟨z0, t0⟩ := key 0 _ _ rfl rfl
    obtain ⟨z1, t1⟩ := key 1 _ _ rfl rfl
    obtain ⟨z2, t2⟩ := key 2 _ _ rfl rfl
    obtain ⟨z3, t3⟩ := key 3 _ _ rfl rfl
    obtain ⟨⟨k, rfl, gk⟩, -⟩ := leaves_ok 1 (show leaves Tryd.prog 1 3 = some [.int .i64] by kernel_rfl) t0
    obtain ⟨⟨bb, rfl⟩, -⟩ := leaves_ok 1 (show leaves Tryd.prog 1 4 = some [.bool] by kernel_rfl) t3
    obtain ⟨a, ca, l, rfl, h1, h2, h3⟩ := open_dints t1
    obtain ⟨b, cb, m, rfl, h4, h5, h6⟩ := open_dints t2
    exact ⟨⟨k, a, ca, l, b, cb, m, bb⟩, rfl, ⟨wf_i64 gk, h1, h4, h2, h5, h3, h6⟩⟩
theorem des_of : ∀ (n : Nat) {W : World} {cells : List Value}, cells.length = n * 4 → (∀ i, i < n → ∃ d : De, (cells.drop (i * 4)).take 4 = deList d ∧ DeS W d) → ∃ ds : List De, cells = des ds ∧ ds.length = n ∧ ∀ d ∈ ds, DeS W d
  | 0, W, cells, h, _ => ⟨[], by cases cells; rfl; simp at h, rfl, by simp⟩
  | n + 1, W, cells, h, hk => by
    obtain ⟨ds, e, hl, hd⟩ := des_of n (W := W) (cells := cells.drop 4) (by simp; omega) (fun i hi => by
      have := hk (i + 1) (by omega)
      rw [List.drop_drop]
      rwa [show 4 + i * 4 = (i + 1) * 4 by omega])
    obtain ⟨d, e0, h0⟩ := hk 0 (by omega)
    rw [Nat.zero_mul, List.drop_zero] at e0
    refine ⟨d :: ds, ?_, by simp [hl], fun x hx => ?_⟩
    · rw [des, List.flatMap_cons, ← des, ← e, ← e0, List.take_append_drop]
    · rcases List.mem_cons.1 hx with rfl | hx
      · exact h0
      · exact hd x hx
theorem open_deeds {H : Type} {enc : TypeId × Value → H} {W : World} {a0 : Option Addr} {n0 c0 : Nat} {d : DataW H} {p : List MemPlace} (h : DataW.Trod enc Tryd.prog W 0 (fun _ => true) true 23 (.slice a0 n0 c0) d p) :
    ∃ (ds : List De), n0 = ds.length ∧ ds.length ≤ c0 ∧ c0 ≤ maxLen ∧ Sl W a0 (des ds) ∧ (a0 = none → c0 = 0) ∧ ∀ d ∈ ds, DeS W d := by
  obtain ⟨fuel, h⟩ := h
  obtain ⟨a, n, cap, cells, e, h1, h2, h3, h4, h5, h6⟩ := open_elems Tryd.underlying23 cellsDeed (by omega) (v := .slice a0 n0 c0) h
  injection e with e1 e2 e3
  subst e1 e2 e3
  obtain ⟨ds, rfl, rfl, hd⟩ := des_of _ (W := W) h3 (fun i hi => by
    obtain ⟨nn, y, hl, ht⟩ := h6 i hi
    exact open_deed hl ht)
  exact ⟨ds, rfl, h1, h2, h4, h5, hd⟩
end Go.Proofs.YtchceegpbfecaaaDoor
